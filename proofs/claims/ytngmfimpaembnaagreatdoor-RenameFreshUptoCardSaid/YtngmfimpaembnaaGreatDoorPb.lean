/- Part of the proof of a law: contracts of the functions that the law reaches, or plain laws of them, out of the abstract layer (the texts YtngmfimpaembnaaGreatDoorIso..). No condition. -/
import Derived.Test.YtngmfimpaembnaaGreatDoorW
import Derived.Test.YtngmfimpaembnaaGreatDoorIsoI
import Derived.Test.YtngmfimpaembnaaGreatDoorLman
import Derived.Test.YtngmfimpaembnaaGreatDoorShelf
import Derived.Test.YtngmfimpaembnaaGreatDoorIsoU
import Derived.Test.YtngmfimpaembnaaGreatDoorIsoQ
import Derived.Test.YtngmfimpaembnaaGreatDoorPa
open Nat (reduceEqDiff reduceAdd reduceSub reduceMul reduceLeDiff reduceLT)
namespace Go.Proofs.YtngmfimpaembnaaGreatDoor
open Go Go.Iso Go.Proofs
set_option linter.unusedSimpArgs false
set_option linter.unusedVariables false
set_option maxRecDepth 100000
/-! ### isochrone/static.BoundOf -/
def static_BoundOf_body (K : Nat) (self29 : NodeA → Option Api_NamesA) (self67 : NodeA → Option Api_NamesA) (p0 : NodeA) : Option Api_NamesA := ((
    (tree_Sort K p0.op).bind fun r3 => 
    if (r3 == (1 : Int)) then
      outM (
        some (Api_NamesA.mk false []))
    else
      ((
        if (r3 == (3 : Int)) then
          some (r3 == (3 : Int))
        else
          some (r3 == (4 : Int))) : Option Bool).bind (fun v6_0 => 
      if v6_0 then
        ((
          if (p0.op == (50 : Int)) then
            some (p0.op == (50 : Int))
          else
            some (p0.op == (52 : Int))) : Option Bool).bind (fun v10_0 => 
        if v10_0 then
          (static_one K p0.name).bind fun r14 => 
          outM (
            some r14)
        else
          if (p0.op == (51 : Int)) then
            (catO p0.name (⟨#[39]⟩ : ByteArray)).bind fun s17 => 
            (static_one K s17).bind fun r19 => 
            outM (
              some r19)
          else
            if (p0.op == (53 : Int)) then
              outM (
                some (Api_NamesA.mk false []))
            else
              if (p0.op == (55 : Int)) then
                (static_one K p0.name).bind fun r23 => 
                (catO p0.name (⟨#[39]⟩ : ByteArray)).bind fun s25 => 
                (static_one K s25).bind fun r27 => 
                (static_union K r23 r27).bind fun r29 => 
                outM (
                  some r29)
              else
                ((
                  if (p0.op == (56 : Int)) then
                    some (p0.op == (56 : Int))
                  else
                    if (p0.op == (61 : Int)) then
                      some (p0.op == (61 : Int))
                    else
                      some (p0.op == (62 : Int))) : Option Bool).bind (fun v31_0 => 
                if v31_0 then
                  (static_everything K ).bind fun r36 => 
                  outM (
                    some r36)
                else
                  if (p0.op == (54 : Int)) then
                    (cutL p0.kids none (some (IntKind.wrap .i64 ((p0.kids.length : Int) - (1 : Int))))).bind fun s39 => 
                    ((iter (S := Int × Api_NamesA) (R := Api_NamesA) K (fun again (i45_0, i45_1) => 
                      if (decide (i45_0 < (s39.length : Int))) then
                        (idx s39 i45_0).bind fun x50 => 
                        (self29 (x50)).bind fun r52 => 
                        (static_union K i45_1 r52).bind fun r54 => 
                        again (IntKind.wrap .i64 (i45_0 + (1 : Int)), r54)
                      else
                        some i45_1) ((0 : Int), (Api_NamesA.mk false []))) : Option Api_NamesA).bind (fun e46_0 => 
                    outM (
                      some e46_0))
                  else
                    some (.go ())))
      else
        some (.go ()))) : Option (Out Unit _)).bind (Out.fin fun _ => 
  (tree_Sort K p0.op).bind fun r56 => 
  if (r56 == (2 : Int)) then
    (self67 (p0)).bind fun r59 => 
    some r59
  else
    ((iter (S := Int × Api_NamesA) (R := Api_NamesA) K (fun again (i65_0, i65_1) => 
      if (decide (i65_0 < (p0.kids.length : Int))) then
        (idx p0.kids i65_0).bind fun x70 => 
        (self29 (x70)).bind fun r72 => 
        (static_union K i65_1 r72).bind fun r74 => 
        again (IntKind.wrap .i64 (i65_0 + (1 : Int)), r74)
      else
        some i65_1) ((0 : Int), (Api_NamesA.mk false []))) : Option Api_NamesA).bind (fun e66_0 => 
    some e66_0))
set_option maxHeartbeats 4000000 in
theorem static_BoundOf_step (K : Nat) (self29 : NodeA → Option Api_NamesA) (self67 : NodeA → Option Api_NamesA) (hself29 : ∀ (q : NodeA) (r : Api_NamesA), self29 q = some r → Cn Tryz.prog 29 [aggV q.enc] (aggV r.enc)) (hself67 : ∀ (q : NodeA) (r : Api_NamesA), self67 q = some r → Cn Tryz.prog 67 [aggV q.enc] (aggV r.enc)) (p0 : NodeA) (r : Api_NamesA) (h : static_BoundOf_body K self29 self67 p0 = some r) : Cn Tryz.prog 29 [aggV p0.enc] (aggV r.enc) := by
  refine Cn.ofA mixed Tryz.func29 rfl Tryz.call29 Tryz.ntmps29 Tryz.results29 (by simp) (by simp only [go_sem, reduceEqDiff, reduceAdd, reduceSub, reduceMul, reduceLeDiff, reduceLT, Nat.reduceBEq, reduceIte]) fun hfit => ?_
  unfold static_BoundOf_body at h
  refine AW.kp [] [0] ?_
  refine AW.op mixed ?_
  refine AW.kp [0, 1] [1, 2] ?_
  refine AW.op mixed ?_
  refine AW.kp [0, 1, 2] [1, 2, 3] ?_
  refine AW.one ?_
  refine obindE h fun oJ2 h hJ2 => ?_
  refine AW.join (S := Unit) (fun _ => [(1, .ptr 0 6 0 0), (2, .ptr 1 2 0 0), (3, .ptr 2 2 0 0)]) (fun _ => [some ⟨6, [[.d (.val (.int .i64 p0.op)), .d (.val (.string p0.name)), .d (.val (.bool p0.num.neg)), .d (slD u32V p0.num.num), .d (slD u32V p0.num.den), .d (slD NodeA.enc p0.kids)]]⟩, some ⟨2, [[.d (.val (.bool false)), .d (.val (.slice none 0 0))]]⟩, some ⟨2, [[.d (.val (.bool false)), .d (.val (.slice none 0 0))]]⟩]) (fun x => oJ2 = .go x) ?_ ?_
  · skip
    refine AW.op mixed ?_
    apply obindE h; intro r3 hx4 h
    have hc := nx (tree_Sort_ok (h := hx4))
    refine callP hc ?_
    refine AW.kp [0, 1, 2] [1, 2, 3, 10] ?_
    refine AW.block ?_
    refine AW.op mixed ?_
    refine AW.kp [0, 1, 2] [1, 2, 3, 10, 11] ?_
    refine AW.ts (r3 == (1 : Int)) (fun hb5 => ?_) (fun hb5 => ?_)
    · have h := ifT hb5 h
      refine AW.op mixed ?_
      refine AW.ret ?_
      obtain ⟨_, h, ho⟩ := outM_some h
      rw [ho, Out.fin_out] at hJ2
      have h := h.trans hJ2
      obtain rfl := Option.some.inj h
      refine nz ?_
      exact .aggL ⟨.same _, .nil, trivial⟩
    have h := ifF hb5 h
    refine AW.one ?_
    refine obindE h fun oJ7 h hJ7 => ?_
    refine AW.join (S := Bool) (fun v6_0 => [(1, .ptr 0 6 0 0), (2, .ptr 1 2 0 0), (3, .ptr 2 2 0 0), (14, .d (.val (.bool v6_0)))]) (fun v6_0 => [some ⟨6, [[.d (.val (.int .i64 p0.op)), .d (.val (.string p0.name)), .d (.val (.bool p0.num.neg)), .d (slD u32V p0.num.num), .d (slD u32V p0.num.den), .d (slD NodeA.enc p0.kids)]]⟩, some ⟨2, [[.d (.val (.bool false)), .d (.val (.slice none 0 0))]]⟩, some ⟨2, [[.d (.val (.bool false)), .d (.val (.slice none 0 0))]]⟩]) (fun x => x = oJ7) ?_ ?_
    · skip
      refine AW.op mixed ?_
      refine AW.kp [0, 1, 2] [1, 2, 3, 10, 14] ?_
      refine AW.ts (r3 == (3 : Int)) (fun hb8 => ?_) (fun hb8 => ?_)
      · have h := ifT hb8 h
        refine AW.sk ?_
        exact JoinQ.ar (r3 == (3 : Int)) [0, 1, 2] (Option.some.inj h)
      have h := ifF hb8 h
      refine AW.rg mixed ?_
      exact JoinQ.ar (r3 == (4 : Int)) [0, 1, 2] (Option.some.inj h)
    rintro v6_0 rfl
    have h := hJ7
    try dsimp only [Out.fin] at h
    refine nz ?_
    refine AW.ts v6_0 (fun hb9 => ?_) (fun hb9 => ?_)
    · have h := ifT hb9 h
      refine AW.op mixed ?_
      refine AW.kp [0, 1, 2] [1, 2, 3, 18] ?_
      refine AW.block ?_
      refine AW.one ?_
      refine obindE h fun oJ11 h hJ11 => ?_
      refine AW.join (S := Bool) (fun v10_0 => [(1, .ptr 0 6 0 0), (2, .ptr 1 2 0 0), (3, .ptr 2 2 0 0), (18, .d (.val (.int .i64 p0.op))), (19, .d (.val (.bool v10_0)))]) (fun v10_0 => [some ⟨6, [[.d (.val (.int .i64 p0.op)), .d (.val (.string p0.name)), .d (.val (.bool p0.num.neg)), .d (slD u32V p0.num.num), .d (slD u32V p0.num.den), .d (slD NodeA.enc p0.kids)]]⟩, some ⟨2, [[.d (.val (.bool false)), .d (.val (.slice none 0 0))]]⟩, some ⟨2, [[.d (.val (.bool false)), .d (.val (.slice none 0 0))]]⟩]) (fun x => x = oJ11) ?_ ?_
      · skip
        refine AW.op mixed ?_
        refine AW.kp [0, 1, 2] [1, 2, 3, 18, 19] ?_
        refine AW.ts (p0.op == (50 : Int)) (fun hb12 => ?_) (fun hb12 => ?_)
        · have h := ifT hb12 h
          refine AW.sk ?_
          exact JoinQ.ar (p0.op == (50 : Int)) [0, 1, 2] (Option.some.inj h)
        have h := ifF hb12 h
        refine AW.rg mixed ?_
        exact JoinQ.ar (p0.op == (52 : Int)) [0, 1, 2] (Option.some.inj h)
      rintro v10_0 rfl
      have h := hJ11
      try dsimp only [Out.fin] at h
      refine nz ?_
      refine AW.ts v10_0 (fun hb13 => ?_) (fun hb13 => ?_)
      · have h := ifT hb13 h
        refine AW.op mixed ?_
        apply obindE h; intro r14 hx15 h
        have hc := nx (static_one_ok (h := hx15))
        refine callP hc ?_
        refine AW.ret ?_
        obtain ⟨_, h, ho⟩ := outM_some h
        rw [ho, Out.fin_out] at hJ2
        have h := h.trans hJ2
        obtain rfl := Option.some.inj h
        refine nz ?_
        exact .same _
      have h := ifF hb13 h
      refine AW.op mixed ?_
      refine AW.kp [0, 1, 2] [1, 2, 3, 18, 25] ?_
      refine AW.ts (p0.op == (51 : Int)) (fun hb16 => ?_) (fun hb16 => ?_)
      · have h := ifT hb16 h
        refine AW.op mixed ?_
        apply obindE h; intro s17 hx18 h
        try simp only [go_sem, reduceEqDiff, reduceAdd, reduceSub, reduceMul, reduceLeDiff, reduceLT, Nat.reduceBEq, reduceIte, bop_cat (P := Tryz.prog) hx18]
        apply obindE h; intro r19 hx20 h
        have hc := nx (static_one_ok (h := hx20))
        refine callK_pure hc (by simp only [go_sem, reduceEqDiff, reduceAdd, reduceSub, reduceMul, reduceLeDiff, reduceLT, Nat.reduceBEq, reduceIte]) ?_
        try simp only [go_sem, reduceEqDiff, reduceAdd, reduceSub, reduceMul, reduceLeDiff, reduceLT, Nat.reduceBEq, reduceIte, bop_cat (P := Tryz.prog) hx18]
        refine AW.ret ?_
        obtain ⟨_, h, ho⟩ := outM_some h
        rw [ho, Out.fin_out] at hJ2
        have h := h.trans hJ2
        obtain rfl := Option.some.inj h
        refine nz ?_
        exact .same _
      have h := ifF hb16 h
      refine AW.op mixed ?_
      refine AW.kp [0, 1, 2] [1, 2, 3, 18, 31] ?_
      refine AW.ts (p0.op == (53 : Int)) (fun hb21 => ?_) (fun hb21 => ?_)
      · have h := ifT hb21 h
        refine AW.op mixed ?_
        refine AW.ret ?_
        obtain ⟨_, h, ho⟩ := outM_some h
        rw [ho, Out.fin_out] at hJ2
        have h := h.trans hJ2
        obtain rfl := Option.some.inj h
        refine nz ?_
        exact .aggL ⟨.same _, .nil, trivial⟩
      have h := ifF hb21 h
      refine AW.op mixed ?_
      refine AW.kp [0, 1, 2] [1, 2, 3, 18, 34] ?_
      refine AW.ts (p0.op == (55 : Int)) (fun hb22 => ?_) (fun hb22 => ?_)
      · have h := ifT hb22 h
        refine AW.op mixed ?_
        apply obindE h; intro r23 hx24 h
        have hc := nx (static_one_ok (h := hx24))
        refine callD hc ?_
        apply obindE h; intro s25 hx26 h
        try simp only [go_sem, reduceEqDiff, reduceAdd, reduceSub, reduceMul, reduceLeDiff, reduceLT, Nat.reduceBEq, reduceIte, bop_cat (P := Tryz.prog) hx26]
        apply obindE h; intro r27 hx28 h
        have hc := nx (static_one_ok (h := hx28))
        refine pcallK_intro hc (by simp only [go_sem, reduceEqDiff, reduceAdd, reduceSub, reduceMul, reduceLeDiff, reduceLT, Nat.reduceBEq, reduceIte]) ?_
        try simp only [go_sem, reduceEqDiff, reduceAdd, reduceSub, reduceMul, reduceLeDiff, reduceLT, Nat.reduceBEq, reduceIte, bop_cat (P := Tryz.prog) hx26]
        apply obindE h; intro r29 hx30 h
        have hc := nx (static_union_ok (h := hx30))
        refine pcallK_intro hc (by simp only [go_sem, reduceEqDiff, reduceAdd, reduceSub, reduceMul, reduceLeDiff, reduceLT, Nat.reduceBEq, reduceIte]) ?_
        try simp only [go_sem, reduceEqDiff, reduceAdd, reduceSub, reduceMul, reduceLeDiff, reduceLT, Nat.reduceBEq, reduceIte, bop_cat (P := Tryz.prog) hx26]
        refine AW.ret ?_
        obtain ⟨_, h, ho⟩ := outM_some h
        rw [ho, Out.fin_out] at hJ2
        have h := h.trans hJ2
        obtain rfl := Option.some.inj h
        refine nz ?_
        exact .same _
      have h := ifF hb22 h
      refine AW.one ?_
      refine obindE h fun oJ32 h hJ32 => ?_
      refine AW.join (S := Bool) (fun v31_0 => [(1, .ptr 0 6 0 0), (2, .ptr 1 2 0 0), (3, .ptr 2 2 0 0), (18, .d (.val (.int .i64 p0.op))), (44, .d (.val (.bool v31_0)))]) (fun v31_0 => [some ⟨6, [[.d (.val (.int .i64 p0.op)), .d (.val (.string p0.name)), .d (.val (.bool p0.num.neg)), .d (slD u32V p0.num.num), .d (slD u32V p0.num.den), .d (slD NodeA.enc p0.kids)]]⟩, some ⟨2, [[.d (.val (.bool false)), .d (.val (.slice none 0 0))]]⟩, some ⟨2, [[.d (.val (.bool false)), .d (.val (.slice none 0 0))]]⟩]) (fun x => x = oJ32) ?_ ?_
      · skip
        refine AW.op mixed ?_
        refine AW.kp [0, 1, 2] [1, 2, 3, 18, 44] ?_
        refine AW.ts (p0.op == (56 : Int)) (fun hb33 => ?_) (fun hb33 => ?_)
        · have h := ifT hb33 h
          refine AW.sk ?_
          exact JoinQ.ar (p0.op == (56 : Int)) [0, 1, 2] (Option.some.inj h)
        have h := ifF hb33 h
        refine AW.op mixed ?_
        refine AW.kp [0, 1, 2] [1, 2, 3, 18, 44] ?_
        refine AW.ts (p0.op == (61 : Int)) (fun hb34 => ?_) (fun hb34 => ?_)
        · have h := ifT hb34 h
          refine AW.sk ?_
          exact JoinQ.ar (p0.op == (61 : Int)) [0, 1, 2] (Option.some.inj h)
        have h := ifF hb34 h
        refine AW.rg mixed ?_
        exact JoinQ.ar (p0.op == (62 : Int)) [0, 1, 2] (Option.some.inj h)
      rintro v31_0 rfl
      have h := hJ32
      try dsimp only [Out.fin] at h
      refine nz ?_
      refine AW.ts v31_0 (fun hb35 => ?_) (fun hb35 => ?_)
      · have h := ifT hb35 h
        refine AW.op mixed ?_
        apply obindE h; intro r36 hx37 h
        have hc := nx (static_everything_ok (h := hx37))
        refine callP hc ?_
        refine AW.ret ?_
        obtain ⟨_, h, ho⟩ := outM_some h
        rw [ho, Out.fin_out] at hJ2
        have h := h.trans hJ2
        obtain rfl := Option.some.inj h
        refine nz ?_
        exact .same _
      have h := ifF hb35 h
      refine AW.op mixed ?_
      refine AW.kp [0, 1, 2] [1, 2, 3, 49] ?_
      refine AW.ts (p0.op == (54 : Int)) (fun hb38 => ?_) (fun hb38 => ?_)
      · have h := ifT hb38 h
        refine AW.one ?_
        refine AW.one ?_
        refine AW.reg mixed (by kernel_rfl) ?_
        apply obindE h; intro s39 hx40 h
        try simp only [go_sem, reduceEqDiff, reduceAdd, reduceSub, reduceMul, reduceLeDiff, reduceLT, Nat.reduceBEq, reduceIte, hx40]
        refine AW.cut [1, 2] [(2, .ptr 0 2 0 0), (3, .ptr 1 2 0 0), (57, .d (slD NodeA.enc s39)), (58, .d (.val (.int .i64 (s39.length : Int)))), (59, .d (.val (.int .i64 (0 : Int))))] [some ⟨2, [[.d (.val (.bool false)), .d (.val (.slice none 0 0))]]⟩, some ⟨2, [[.d (.val (.bool false)), .d (.val (.slice none 0 0))]]⟩] (by simp only [go_sem, reduceEqDiff, reduceAdd, reduceSub, reduceMul, reduceLeDiff, reduceLT, Nat.reduceBEq, reduceIte, hx40]) ?_
        refine AW.cutS [0, 1] [] [] [(1, ⟨2, [[.d (.val (.bool false)), .d (slD strV [])]]⟩)] [(2, .ptr 0 2 0 0), (3, .ptr 1 2 0 0), (57, .d (slD NodeA.enc s39)), (58, .d (.val (.int .i64 (s39.length : Int)))), (59, .d (.val (.int .i64 (0 : Int))))] [some ⟨2, [[.d (.val (.bool false)), .d (.val (.slice none 0 0))]]⟩, some ⟨2, [[.d (.val (.bool false)), .d (slD strV [])]]⟩] (by simp only [go_sem, reduceEqDiff, reduceAdd, reduceSub, reduceMul, reduceLeDiff, reduceLT, Nat.reduceBEq, reduceIte, sealL_cons, sealL_nil]) (by simp only [go_sem, reduceEqDiff, reduceAdd, reduceSub, reduceMul, reduceLeDiff, reduceLT, Nat.reduceBEq, reduceIte, sealH_cons, sealH_nil]; exact ⟨⟨.same _, .nil, trivial⟩, trivial⟩) (by simp only [go_sem, reduceEqDiff, reduceAdd, reduceSub, reduceMul, reduceLeDiff, reduceLT, Nat.reduceBEq, reduceIte]) ?_
        refine obindE h fun oJ48 h hJ48 => ?_
        refine AW.join (S := Api_NamesA) (fun e46_0 => [(2, .ptr 0 2 0 0), (3, .ptr 1 2 0 0)]) (fun e46_0 => [some ⟨2, [[.d (.val (.bool false)), .d (.val (.slice none 0 0))]]⟩, some ⟨2, [[.d (.val (.bool e46_0.all)), .d (slD strV e46_0.list)]]⟩]) (fun x => x = oJ48) ?_ ?_
        · refine AW.block ?_
          refine AW.iter (S := Int × Api_NamesA) (fun (i45_0, i45_1) => [(2, .ptr 0 2 0 0), (3, .ptr 1 2 0 0), (57, .d (slD NodeA.enc s39)), (58, .d (.val (.int .i64 (s39.length : Int)))), (59, .d (.val (.int .i64 i45_0)))]) (fun (i45_0, i45_1) => [some ⟨2, [[.d (.val (.bool false)), .d (.val (.slice none 0 0))]]⟩, some ⟨2, [[.d (.val (.bool i45_1.all)), .d (slD strV i45_1.list)]]⟩]) [0, 1] h (by simp only [go_sem, reduceEqDiff, reduceAdd, reduceSub, reduceMul, reduceLeDiff, reduceLT, Nat.reduceBEq, reduceIte]) ?_
          rintro again ⟨i45_0, i45_1⟩ h
          try dsimp only at h
          refine AW.op mixed ?_
          refine AW.kp [0, 1] [2, 3, 57, 58, 59, 60] ?_
          refine AW.one ?_
          refine AW.ts (decide (i45_0 < (s39.length : Int))) (fun hb49 => ?_) (fun hb49 => ?_)
          · have h := ifT hb49 h
            refine AW.sk ?_
            refine AW.kp [0, 1] [2, 3, 57, 58, 59] ?_
            refine AW.one ?_
            refine AW.block ?_
            refine AW.one ?_
            refine AW.reg mixed (by kernel_rfl) ?_
            apply obindE h; intro x50 hx51 h
            try simp only [go_sem, reduceEqDiff, reduceAdd, reduceSub, reduceMul, reduceLeDiff, reduceLT, Nat.reduceBEq, reduceIte, (idx_some hx51).1, (idx_some hx51).2]
            refine AW.cut [0, 1, 4] [(2, .ptr 0 2 0 0), (3, .ptr 1 2 0 0), (5, .ptr 2 6 0 0), (57, .d (slD NodeA.enc s39)), (58, .d (.val (.int .i64 (s39.length : Int)))), (59, .d (.val (.int .i64 i45_0)))] [some ⟨2, [[.d (.val (.bool false)), .d (.val (.slice none 0 0))]]⟩, some ⟨2, [[.d (.val (.bool i45_1.all)), .d (slD strV i45_1.list)]]⟩, some ⟨6, [[.d (.val (.int .i64 x50.op)), .d (.val (.string x50.name)), .d (.val (.bool x50.num.neg)), .d (slD u32V x50.num.num), .d (slD u32V x50.num.den), .d (slD NodeA.enc x50.kids)]]⟩] (by simp only [go_sem, reduceEqDiff, reduceAdd, reduceSub, reduceMul, reduceLeDiff, reduceLT, Nat.reduceBEq, reduceIte, (idx_some hx51).1, (idx_some hx51).2]) ?_
            refine AW.rg mixed ?_
            apply obindE h; intro r52 hx53 h
            have hc := nx (hself29 _ _ hx53)
            refine callD hc ?_
            apply obindE h; intro r54 hx55 h
            have hc := nx (static_union_ok (h := hx55))
            refine callD hc ?_
            refine AW.kp [0, 1] [2, 3, 57, 58, 59] ?_
            refine AW.rg mixed ?_
            exact NextQ.ar (IntKind.wrap .i64 (i45_0 + (1 : Int)), r54) [0, 1] h
          have h := ifF hb49 h
          refine AW.ex ?_
          exact JoinQ.ar i45_1 [0, 1] (Option.some.inj h)
        rintro e46_0 rfl
        have h := hJ48
        try dsimp only [Out.fin] at h
        refine nz ?_
        refine AW.kp [0, 1] [2, 3] ?_
        refine AW.op mixed ?_
        refine AW.ret ?_
        obtain ⟨_, h, ho⟩ := outM_some h
        rw [ho, Out.fin_out] at hJ2
        have h := h.trans hJ2
        obtain rfl := Option.some.inj h
        refine nz ?_
        exact .same _
      have h := ifF hb38 h
      refine AW.sk ?_
      exact JoinQ.ar () [0, 1, 2] (Option.some.inj h).symm
    have h := ifF hb9 h
    refine AW.sk ?_
    exact JoinQ.ar () [0, 1, 2] (Option.some.inj h).symm
  rintro ⟨⟩ rfl
  have h := hJ2
  try dsimp only [Out.fin] at h
  refine nz ?_
  refine AW.one ?_
  refine AW.op mixed ?_
  apply obindE h; intro r56 hx57 h
  have hc := nx (tree_Sort_ok (h := hx57))
  refine callP hc ?_
  refine AW.kp [0, 1, 2] [1, 2, 3, 72] ?_
  refine AW.ts (r56 == (2 : Int)) (fun hb58 => ?_) (fun hb58 => ?_)
  · have h := ifT hb58 h
    refine AW.op mixed ?_
    apply obindE h; intro r59 hx60 h
    have hc := nx (hself67 _ _ hx60)
    refine callP hc ?_
    refine AW.ret ?_
    obtain rfl := Option.some.inj h
    refine nz ?_
    exact .same _
  have h := ifF hb58 h
  refine AW.sk ?_
  refine AW.kp [0, 1, 2] [1, 2, 3] ?_
  refine AW.one ?_
  refine AW.op mixed ?_
  refine AW.kp [1, 2] [2, 3, 76, 77, 78] ?_
  refine AW.cutS [0, 1] [] [] [(1, ⟨2, [[.d (.val (.bool false)), .d (slD strV [])]]⟩)] [(2, .ptr 0 2 0 0), (3, .ptr 1 2 0 0), (76, .d (slD NodeA.enc p0.kids)), (77, .d (.val (.int .i64 (p0.kids.length : Int)))), (78, .d (.val (.int .i64 (0 : Int))))] [some ⟨2, [[.d (.val (.bool false)), .d (.val (.slice none 0 0))]]⟩, some ⟨2, [[.d (.val (.bool false)), .d (slD strV [])]]⟩] (by simp only [go_sem, reduceEqDiff, reduceAdd, reduceSub, reduceMul, reduceLeDiff, reduceLT, Nat.reduceBEq, reduceIte, sealL_cons, sealL_nil]) (by simp only [go_sem, reduceEqDiff, reduceAdd, reduceSub, reduceMul, reduceLeDiff, reduceLT, Nat.reduceBEq, reduceIte, sealH_cons, sealH_nil]; exact ⟨⟨.same _, .nil, trivial⟩, trivial⟩) (by simp only [go_sem, reduceEqDiff, reduceAdd, reduceSub, reduceMul, reduceLeDiff, reduceLT, Nat.reduceBEq, reduceIte]) ?_
  refine obindE h fun oJ68 h hJ68 => ?_
  refine AW.join (S := Api_NamesA) (fun e66_0 => [(2, .ptr 0 2 0 0), (3, .ptr 1 2 0 0)]) (fun e66_0 => [some ⟨2, [[.d (.val (.bool false)), .d (.val (.slice none 0 0))]]⟩, some ⟨2, [[.d (.val (.bool e66_0.all)), .d (slD strV e66_0.list)]]⟩]) (fun x => x = oJ68) ?_ ?_
  · refine AW.block ?_
    refine AW.iter (S := Int × Api_NamesA) (fun (i65_0, i65_1) => [(2, .ptr 0 2 0 0), (3, .ptr 1 2 0 0), (76, .d (slD NodeA.enc p0.kids)), (77, .d (.val (.int .i64 (p0.kids.length : Int)))), (78, .d (.val (.int .i64 i65_0)))]) (fun (i65_0, i65_1) => [some ⟨2, [[.d (.val (.bool false)), .d (.val (.slice none 0 0))]]⟩, some ⟨2, [[.d (.val (.bool i65_1.all)), .d (slD strV i65_1.list)]]⟩]) [0, 1] h (by simp only [go_sem, reduceEqDiff, reduceAdd, reduceSub, reduceMul, reduceLeDiff, reduceLT, Nat.reduceBEq, reduceIte]) ?_
    rintro again ⟨i65_0, i65_1⟩ h
    try dsimp only at h
    refine AW.op mixed ?_
    refine AW.kp [0, 1] [2, 3, 76, 77, 78, 79] ?_
    refine AW.one ?_
    refine AW.ts (decide (i65_0 < (p0.kids.length : Int))) (fun hb69 => ?_) (fun hb69 => ?_)
    · have h := ifT hb69 h
      refine AW.sk ?_
      refine AW.kp [0, 1] [2, 3, 76, 77, 78] ?_
      refine AW.one ?_
      refine AW.block ?_
      refine AW.one ?_
      refine AW.reg mixed (by kernel_rfl) ?_
      apply obindE h; intro x70 hx71 h
      try simp only [go_sem, reduceEqDiff, reduceAdd, reduceSub, reduceMul, reduceLeDiff, reduceLT, Nat.reduceBEq, reduceIte, (idx_some hx71).1, (idx_some hx71).2]
      refine AW.cut [0, 1, 4] [(2, .ptr 0 2 0 0), (3, .ptr 1 2 0 0), (7, .ptr 2 6 0 0), (76, .d (slD NodeA.enc p0.kids)), (77, .d (.val (.int .i64 (p0.kids.length : Int)))), (78, .d (.val (.int .i64 i65_0)))] [some ⟨2, [[.d (.val (.bool false)), .d (.val (.slice none 0 0))]]⟩, some ⟨2, [[.d (.val (.bool i65_1.all)), .d (slD strV i65_1.list)]]⟩, some ⟨6, [[.d (.val (.int .i64 x70.op)), .d (.val (.string x70.name)), .d (.val (.bool x70.num.neg)), .d (slD u32V x70.num.num), .d (slD u32V x70.num.den), .d (slD NodeA.enc x70.kids)]]⟩] (by simp only [go_sem, reduceEqDiff, reduceAdd, reduceSub, reduceMul, reduceLeDiff, reduceLT, Nat.reduceBEq, reduceIte, (idx_some hx71).1, (idx_some hx71).2]) ?_
      refine AW.rg mixed ?_
      apply obindE h; intro r72 hx73 h
      have hc := nx (hself29 _ _ hx73)
      refine callD hc ?_
      apply obindE h; intro r74 hx75 h
      have hc := nx (static_union_ok (h := hx75))
      refine callD hc ?_
      refine AW.kp [0, 1] [2, 3, 76, 77, 78] ?_
      refine AW.rg mixed ?_
      exact NextQ.ar (IntKind.wrap .i64 (i65_0 + (1 : Int)), r74) [0, 1] h
    have h := ifF hb69 h
    refine AW.ex ?_
    exact JoinQ.ar i65_1 [0, 1] (Option.some.inj h)
  rintro e66_0 rfl
  have h := hJ68
  try dsimp only [Out.fin] at h
  refine nz ?_
  refine AW.kp [0, 1] [2, 3] ?_
  refine AW.op mixed ?_
  refine AW.ret ?_
  obtain rfl := Option.some.inj h
  refine nz ?_
  exact .same _
/-! ### isochrone/static.everywhere -/
def static_everywhere_body (K : Nat) (self29 : NodeA → Option Api_NamesA) (self67 : NodeA → Option Api_NamesA) (p0 : NodeA) : Option Api_NamesA := ((
    ((
      if (p0.op == (33 : Int)) then
        some true
      else
        some (p0.op == (34 : Int))) : Option Bool).bind (fun v3_0 => 
    if v3_0 then
      (static_one K p0.name).bind fun r7 => 
      some (r7.all, r7.list)
    else
      (tree_Sort K p0.op).bind fun r9 => 
      if (decide ((3 : Int) ≤ r9)) then
        (self29 (p0)).bind fun r12 => 
        some (r12.all, r12.list)
      else
        some (false, []))) : Option (Bool × (List ByteArray))).bind (fun (v1_0, v1_1) => 
  ((iter (S := Int × Api_NamesA) (R := Api_NamesA) K (fun again (i14_0, i14_1) => 
    if (decide (i14_0 < (p0.kids.length : Int))) then
      (idx p0.kids i14_0).bind fun x19 => 
      (self67 (x19)).bind fun r21 => 
      (static_union K i14_1 r21).bind fun r23 => 
      again (IntKind.wrap .i64 (i14_0 + (1 : Int)), r23)
    else
      some i14_1) ((0 : Int), (Api_NamesA.mk v1_0 v1_1))) : Option Api_NamesA).bind (fun e15_0 => 
  some e15_0))
set_option maxHeartbeats 4000000 in
theorem static_everywhere_step (K : Nat) (self29 : NodeA → Option Api_NamesA) (self67 : NodeA → Option Api_NamesA) (hself29 : ∀ (q : NodeA) (r : Api_NamesA), self29 q = some r → Cn Tryz.prog 29 [aggV q.enc] (aggV r.enc)) (hself67 : ∀ (q : NodeA) (r : Api_NamesA), self67 q = some r → Cn Tryz.prog 67 [aggV q.enc] (aggV r.enc)) (p0 : NodeA) (r : Api_NamesA) (h : static_everywhere_body K self29 self67 p0 = some r) : Cn Tryz.prog 67 [aggV p0.enc] (aggV r.enc) := by
  refine Cn.ofA mixed Tryz.func67 rfl Tryz.call67 Tryz.ntmps67 Tryz.results67 (by simp) (by simp only [go_sem, reduceEqDiff, reduceAdd, reduceSub, reduceMul, reduceLeDiff, reduceLT, Nat.reduceBEq, reduceIte]) fun hfit => ?_
  unfold static_everywhere_body at h
  refine AW.kp [] [0] ?_
  refine AW.op mixed ?_
  refine AW.kp [0, 1] [1, 2] ?_
  refine AW.op mixed ?_
  refine AW.kp [0, 1, 2] [1, 2, 3] ?_
  refine AW.one ?_
  refine obindE h fun oJ2 h hJ2 => ?_
  refine AW.join (S := Bool × (List ByteArray)) (fun (v1_0, v1_1) => [(1, .ptr 0 6 0 0), (2, .ptr 1 2 0 0), (3, .ptr 2 2 0 0)]) (fun (v1_0, v1_1) => [some ⟨6, [[.d (.val (.int .i64 p0.op)), .d (.val (.string p0.name)), .d (.val (.bool p0.num.neg)), .d (slD u32V p0.num.num), .d (slD u32V p0.num.den), .d (slD NodeA.enc p0.kids)]]⟩, some ⟨2, [[.d (.val (.bool false)), .d (.val (.slice none 0 0))]]⟩, some ⟨2, [[.d (.val (.bool v1_0)), .d (slD strV v1_1)]]⟩]) (fun x => x = oJ2) ?_ ?_
  · skip
    refine AW.block ?_
    refine AW.one ?_
    refine obindE h fun oJ4 h hJ4 => ?_
    refine AW.join (S := Bool) (fun v3_0 => [(1, .ptr 0 6 0 0), (2, .ptr 1 2 0 0), (3, .ptr 2 2 0 0), (6, .d (.val (.bool v3_0)))]) (fun v3_0 => [some ⟨6, [[.d (.val (.int .i64 p0.op)), .d (.val (.string p0.name)), .d (.val (.bool p0.num.neg)), .d (slD u32V p0.num.num), .d (slD u32V p0.num.den), .d (slD NodeA.enc p0.kids)]]⟩, some ⟨2, [[.d (.val (.bool false)), .d (.val (.slice none 0 0))]]⟩, some ⟨2, [[.d (.val (.bool false)), .d (.val (.slice none 0 0))]]⟩]) (fun x => x = oJ4) ?_ ?_
    · skip
      refine AW.rg mixed ?_
      refine splitK_intro (fun hb5 => ?_) (fun hb5 => ?_)
      · have h := ifT hb5 h
        try simp only [go_sem, reduceEqDiff, reduceAdd, reduceSub, reduceMul, reduceLeDiff, reduceLT, Nat.reduceBEq, reduceIte, hb5]
        refine JoinQ.mk true [0, 1, 2] (Option.some.inj h) (by simp only [go_sem, reduceEqDiff, reduceAdd, reduceSub, reduceMul, reduceLeDiff, reduceLT, Nat.reduceBEq, reduceIte, hb5])
      have h := ifF hb5 h
      try simp only [go_sem, reduceEqDiff, reduceAdd, reduceSub, reduceMul, reduceLeDiff, reduceLT, Nat.reduceBEq, reduceIte, hb5]
      refine JoinQ.mk (p0.op == (34 : Int)) [0, 1, 2] (Option.some.inj h) (by simp only [go_sem, reduceEqDiff, reduceAdd, reduceSub, reduceMul, reduceLeDiff, reduceLT, Nat.reduceBEq, reduceIte, hb5])
    rintro v3_0 rfl
    have h := hJ4
    try dsimp only [Out.fin] at h
    refine nz ?_
    refine AW.ts v3_0 (fun hb6 => ?_) (fun hb6 => ?_)
    · have h := ifT hb6 h
      refine AW.rg mixed ?_
      apply obindE h; intro r7 hx8 h
      have hc := nx (static_one_ok (h := hx8))
      refine callP hc ?_
      exact JoinQ.ar (r7.all, r7.list) [0, 1, 2] (Option.some.inj h)
    have h := ifF hb6 h
    refine AW.op mixed ?_
    apply obindE h; intro r9 hx10 h
    have hc := nx (tree_Sort_ok (h := hx10))
    refine callP hc ?_
    refine AW.kp [0, 1, 2] [1, 2, 3, 18] ?_
    refine AW.ts (decide ((3 : Int) ≤ r9)) (fun hb11 => ?_) (fun hb11 => ?_)
    · have h := ifT hb11 h
      refine AW.rg mixed ?_
      apply obindE h; intro r12 hx13 h
      have hc := nx (hself29 _ _ hx13)
      refine callP hc ?_
      exact JoinQ.ar (r12.all, r12.list) [0, 1, 2] (Option.some.inj h)
    have h := ifF hb11 h
    refine AW.sk ?_
    refine JoinQ.mkS (false, []) [0, 1, 2] [] [] [(2, ⟨2, [[.d (.val (.bool false)), .d (slD strV [])]]⟩)] (Option.some.inj h) (by simp only [go_sem, reduceEqDiff, reduceAdd, reduceSub, reduceMul, reduceLeDiff, reduceLT, Nat.reduceBEq, reduceIte, sealL_cons, sealL_nil]) (by simp only [go_sem, reduceEqDiff, reduceAdd, reduceSub, reduceMul, reduceLeDiff, reduceLT, Nat.reduceBEq, reduceIte, sealH_cons, sealH_nil]; exact ⟨⟨.same _, .nil, trivial⟩, trivial⟩) (by simp only [go_sem, reduceEqDiff, reduceAdd, reduceSub, reduceMul, reduceLeDiff, reduceLT, Nat.reduceBEq, reduceIte])
  rintro ⟨v1_0, v1_1⟩ rfl
  have h := hJ2
  try dsimp only [Out.fin] at h
  refine nz ?_
  refine AW.one ?_
  refine AW.op mixed ?_
  refine AW.kp [1, 2] [2, 3, 26, 27, 28] ?_
  refine obindE h fun oJ17 h hJ17 => ?_
  refine AW.join (S := Api_NamesA) (fun e15_0 => [(2, .ptr 0 2 0 0), (3, .ptr 1 2 0 0)]) (fun e15_0 => [some ⟨2, [[.d (.val (.bool false)), .d (.val (.slice none 0 0))]]⟩, some ⟨2, [[.d (.val (.bool e15_0.all)), .d (slD strV e15_0.list)]]⟩]) (fun x => x = oJ17) ?_ ?_
  · refine AW.block ?_
    refine AW.iter (S := Int × Api_NamesA) (fun (i14_0, i14_1) => [(2, .ptr 0 2 0 0), (3, .ptr 1 2 0 0), (26, .d (slD NodeA.enc p0.kids)), (27, .d (.val (.int .i64 (p0.kids.length : Int)))), (28, .d (.val (.int .i64 i14_0)))]) (fun (i14_0, i14_1) => [some ⟨2, [[.d (.val (.bool false)), .d (.val (.slice none 0 0))]]⟩, some ⟨2, [[.d (.val (.bool i14_1.all)), .d (slD strV i14_1.list)]]⟩]) [0, 1] h (by simp only [go_sem, reduceEqDiff, reduceAdd, reduceSub, reduceMul, reduceLeDiff, reduceLT, Nat.reduceBEq, reduceIte]) ?_
    rintro again ⟨i14_0, i14_1⟩ h
    try dsimp only at h
    refine AW.op mixed ?_
    refine AW.kp [0, 1] [2, 3, 26, 27, 28, 29] ?_
    refine AW.one ?_
    refine AW.ts (decide (i14_0 < (p0.kids.length : Int))) (fun hb18 => ?_) (fun hb18 => ?_)
    · have h := ifT hb18 h
      refine AW.sk ?_
      refine AW.kp [0, 1] [2, 3, 26, 27, 28] ?_
      refine AW.one ?_
      refine AW.block ?_
      refine AW.one ?_
      refine AW.reg mixed (by kernel_rfl) ?_
      apply obindE h; intro x19 hx20 h
      try simp only [go_sem, reduceEqDiff, reduceAdd, reduceSub, reduceMul, reduceLeDiff, reduceLT, Nat.reduceBEq, reduceIte, (idx_some hx20).1, (idx_some hx20).2]
      refine AW.cut [0, 1, 4] [(2, .ptr 0 2 0 0), (3, .ptr 1 2 0 0), (5, .ptr 2 6 0 0), (26, .d (slD NodeA.enc p0.kids)), (27, .d (.val (.int .i64 (p0.kids.length : Int)))), (28, .d (.val (.int .i64 i14_0)))] [some ⟨2, [[.d (.val (.bool false)), .d (.val (.slice none 0 0))]]⟩, some ⟨2, [[.d (.val (.bool i14_1.all)), .d (slD strV i14_1.list)]]⟩, some ⟨6, [[.d (.val (.int .i64 x19.op)), .d (.val (.string x19.name)), .d (.val (.bool x19.num.neg)), .d (slD u32V x19.num.num), .d (slD u32V x19.num.den), .d (slD NodeA.enc x19.kids)]]⟩] (by simp only [go_sem, reduceEqDiff, reduceAdd, reduceSub, reduceMul, reduceLeDiff, reduceLT, Nat.reduceBEq, reduceIte, (idx_some hx20).1, (idx_some hx20).2]) ?_
      refine AW.rg mixed ?_
      apply obindE h; intro r21 hx22 h
      have hc := nx (hself67 _ _ hx22)
      refine callD hc ?_
      apply obindE h; intro r23 hx24 h
      have hc := nx (static_union_ok (h := hx24))
      refine callD hc ?_
      refine AW.kp [0, 1] [2, 3, 26, 27, 28] ?_
      refine AW.rg mixed ?_
      exact NextQ.ar (IntKind.wrap .i64 (i14_0 + (1 : Int)), r23) [0, 1] h
    have h := ifF hb18 h
    refine AW.ex ?_
    exact JoinQ.ar i14_1 [0, 1] (Option.some.inj h)
  rintro e15_0 rfl
  have h := hJ17
  try dsimp only [Out.fin] at h
  refine nz ?_
  refine AW.kp [0, 1] [2, 3] ?_
  refine AW.op mixed ?_
  refine AW.ret ?_
  obtain rfl := Option.some.inj h
  refine nz ?_
  exact .same _
def grp_static_BoundOf (K : Nat) : Nat → (NodeA → Option Api_NamesA) × (NodeA → Option Api_NamesA)
  | 0 => (fun _ => none, fun _ => none)
  | k + 1 => (fun q => static_BoundOf_body K (grp_static_BoundOf K k).1 (grp_static_BoundOf K k).2 q, fun q => static_everywhere_body K (grp_static_BoundOf K k).1 (grp_static_BoundOf K k).2 q)
def static_BoundOf (K : Nat) (p0 : NodeA) : Option Api_NamesA := (grp_static_BoundOf K K).1 p0
theorem key_static_BoundOf {K : Nat} (k : Nat) : (∀ (q : NodeA) (r : Api_NamesA), (grp_static_BoundOf K k).1 q = some r → Cn Tryz.prog 29 [aggV q.enc] (aggV r.enc)) ∧ (∀ (q : NodeA) (r : Api_NamesA), (grp_static_BoundOf K k).2 q = some r → Cn Tryz.prog 67 [aggV q.enc] (aggV r.enc)) := by
  induction k with
  | zero => exact ⟨(fun q r h => nomatch (show (none : Option _) = some r from h)), (fun q r h => nomatch (show (none : Option _) = some r from h))⟩
  | succ k ih => exact ⟨fun q r h => static_BoundOf_step K _ _ ih.1 ih.2 q r h, fun q r h => static_everywhere_step K _ _ ih.1 ih.2 q r h⟩
theorem static_BoundOf_ok {K : Nat} {p0 : NodeA} {r : Api_NamesA} (h : static_BoundOf K p0 = some r) : Cn Tryz.prog 29 [aggV p0.enc] (aggV r.enc) := (key_static_BoundOf K).1 p0 r h
/-! ### isochrone/static.not -/
def static_not (K : Nat) (p0 : Api_NamesA) : Option Api_NamesA := some (Api_NamesA.mk (!p0.all) p0.list)
set_option maxHeartbeats 4000000 in
theorem static_not_ok {K : Nat} {p0 : Api_NamesA} {r : Api_NamesA} (h : static_not K p0 = some r) : Cn Tryz.prog 97 [aggV p0.enc] (aggV r.enc) := by
  refine Cn.ofA mixed Tryz.func97 rfl Tryz.call97 Tryz.ntmps97 Tryz.results97 (by simp) (by simp only [go_sem, reduceEqDiff, reduceAdd, reduceSub, reduceMul, reduceLeDiff, reduceLT, Nat.reduceBEq, reduceIte]) fun hfit => ?_
  unfold static_not at h
  refine AW.kp [] [0] ?_
  refine AW.op mixed ?_
  refine AW.kp [0, 1] [1, 2] ?_
  refine AW.op mixed ?_
  refine AW.ret ?_
  obtain rfl := Option.some.inj h
  refine nz ?_
  exact .same _
/-! ### isochrone/static.meet -/
def static_meet (K : Nat) (p0 : Api_NamesA) (p1 : Api_NamesA) : Option Api_NamesA := (static_not K p0).bind fun r1 => 
  (static_not K p1).bind fun r3 => 
  (static_union K r1 r3).bind fun r5 => 
  (static_not K r5).bind fun r7 => 
  some r7
set_option maxHeartbeats 4000000 in
theorem static_meet_ok {K : Nat} {p0 : Api_NamesA} {p1 : Api_NamesA} {r : Api_NamesA} (h : static_meet K p0 p1 = some r) : Cn Tryz.prog 96 [aggV p0.enc, aggV p1.enc] (aggV r.enc) := by
  refine Cn.ofA mixed Tryz.func96 rfl Tryz.call96 Tryz.ntmps96 Tryz.results96 (by simp) (by simp only [go_sem, reduceEqDiff, reduceAdd, reduceSub, reduceMul, reduceLeDiff, reduceLT, Nat.reduceBEq, reduceIte]) fun hfit => ?_
  unfold static_meet at h
  refine AW.kp [] [0, 1] ?_
  refine AW.op mixed ?_
  refine AW.kp [0, 1, 2] [2, 3, 4] ?_
  refine AW.op mixed ?_
  apply obindE h; intro r1 hx2 h
  have hc := nx (static_not_ok (h := hx2))
  refine callD hc ?_
  apply obindE h; intro r3 hx4 h
  have hc := nx (static_not_ok (h := hx4))
  refine callD hc ?_
  apply obindE h; intro r5 hx6 h
  have hc := nx (static_union_ok (h := hx6))
  refine callD hc ?_
  apply obindE h; intro r7 hx8 h
  have hc := nx (static_not_ok (h := hx8))
  refine callD hc ?_
  refine AW.ret ?_
  obtain rfl := Option.some.inj h
  refine nz ?_
  exact .same _
/-! ### isochrone/static.MustOf -/
def static_MustOf_body (K : Nat) (self66 : NodeA → Option Api_NamesA) (p0 : NodeA) : Option Api_NamesA := ((
    ((
      if (p0.op == (50 : Int)) then
        some (p0.op == (50 : Int))
      else
        if (p0.op == (52 : Int)) then
          some (p0.op == (52 : Int))
        else
          some (p0.op == (51 : Int))) : Option Bool).bind (fun v3_0 => 
    if v3_0 then
      (static_BoundOf K p0).bind fun r8 => 
      outM (
        some r8)
    else
      if (p0.op == (54 : Int)) then
        ((iter (S := Int × Api_NamesA) (R := Api_NamesA) K (fun again (i15_0, i15_1) => 
          if (decide (i15_0 < (p0.kids.length : Int))) then
            ((
              (idx p0.kids i15_0).bind fun x22 => 
              if (x22.op == (55 : Int)) then
                (static_BoundOf K x22).bind fun r25 => 
                (static_union K i15_1 r25).bind fun r27 => 
                some r27
              else
                some i15_1) : Option Api_NamesA).bind (fun v20_0 => 
            again (IntKind.wrap .i64 (i15_0 + (1 : Int)), v20_0))
          else
            some i15_1) ((0 : Int), (Api_NamesA.mk false []))) : Option Api_NamesA).bind (fun e16_0 => 
        some (.go (e16_0.all, e16_0.list)))
      else
        if (p0.op == (57 : Int)) then
          (idx p0.kids (0 : Int)).bind fun x30 => 
          (self66 (x30)).bind fun r32 => 
          (idx p0.kids (1 : Int)).bind fun x34 => 
          (self66 (x34)).bind fun r36 => 
          (static_union K r32 r36).bind fun r38 => 
          outM (
            some r38)
        else
          if (p0.op == (58 : Int)) then
            (idx p0.kids (0 : Int)).bind fun x41 => 
            (self66 (x41)).bind fun r43 => 
            (idx p0.kids (1 : Int)).bind fun x45 => 
            (self66 (x45)).bind fun r47 => 
            (static_meet K r43 r47).bind fun r49 => 
            outM (
              some r49)
          else
            if (p0.op == (60 : Int)) then
              (idx p0.kids (0 : Int)).bind fun x52 => 
              (self66 (x52)).bind fun r54 => 
              outM (
                some r54)
            else
              some (.go (false, [])))) : Option (Out (Bool × (List ByteArray)) _)).bind (Out.fin fun (v1_0, v1_1) => 
  some (Api_NamesA.mk v1_0 v1_1))
set_option maxHeartbeats 4000000 in
theorem static_MustOf_step (K : Nat) (self66 : NodeA → Option Api_NamesA) (hself66 : ∀ (q : NodeA) (r : Api_NamesA), self66 q = some r → Cn Tryz.prog 66 [aggV q.enc] (aggV r.enc)) (p0 : NodeA) (r : Api_NamesA) (h : static_MustOf_body K self66 p0 = some r) : Cn Tryz.prog 66 [aggV p0.enc] (aggV r.enc) := by
  refine Cn.ofA mixed Tryz.func66 rfl Tryz.call66 Tryz.ntmps66 Tryz.results66 (by simp) (by simp only [go_sem, reduceEqDiff, reduceAdd, reduceSub, reduceMul, reduceLeDiff, reduceLT, Nat.reduceBEq, reduceIte]) fun hfit => ?_
  unfold static_MustOf_body at h
  refine AW.kp [] [0] ?_
  refine AW.op mixed ?_
  refine AW.kp [0, 1] [1, 2] ?_
  refine AW.op mixed ?_
  refine AW.kp [0, 1, 2] [1, 2, 3] ?_
  refine AW.one ?_
  refine obindE h fun oJ2 h hJ2 => ?_
  refine AW.join (S := Bool × (List ByteArray)) (fun (v1_0, v1_1) => [(2, .ptr 0 2 0 0), (3, .ptr 1 2 0 0)]) (fun (v1_0, v1_1) => [some ⟨2, [[.d (.val (.bool false)), .d (.val (.slice none 0 0))]]⟩, some ⟨2, [[.d (.val (.bool v1_0)), .d (slD strV v1_1)]]⟩]) (fun x => oJ2 = .go x) ?_ ?_
  · skip
    refine AW.op mixed ?_
    refine AW.kp [0, 1, 2] [1, 2, 3, 7] ?_
    refine AW.block ?_
    refine AW.one ?_
    refine obindE h fun oJ4 h hJ4 => ?_
    refine AW.join (S := Bool) (fun v3_0 => [(1, .ptr 0 6 0 0), (2, .ptr 1 2 0 0), (3, .ptr 2 2 0 0), (7, .d (.val (.int .i64 p0.op))), (8, .d (.val (.bool v3_0)))]) (fun v3_0 => [some ⟨6, [[.d (.val (.int .i64 p0.op)), .d (.val (.string p0.name)), .d (.val (.bool p0.num.neg)), .d (slD u32V p0.num.num), .d (slD u32V p0.num.den), .d (slD NodeA.enc p0.kids)]]⟩, some ⟨2, [[.d (.val (.bool false)), .d (.val (.slice none 0 0))]]⟩, some ⟨2, [[.d (.val (.bool false)), .d (.val (.slice none 0 0))]]⟩]) (fun x => x = oJ4) ?_ ?_
    · skip
      refine AW.op mixed ?_
      refine AW.kp [0, 1, 2] [1, 2, 3, 7, 8] ?_
      refine AW.ts (p0.op == (50 : Int)) (fun hb5 => ?_) (fun hb5 => ?_)
      · have h := ifT hb5 h
        refine AW.sk ?_
        exact JoinQ.ar (p0.op == (50 : Int)) [0, 1, 2] (Option.some.inj h)
      have h := ifF hb5 h
      refine AW.op mixed ?_
      refine AW.kp [0, 1, 2] [1, 2, 3, 7, 8] ?_
      refine AW.ts (p0.op == (52 : Int)) (fun hb6 => ?_) (fun hb6 => ?_)
      · have h := ifT hb6 h
        refine AW.sk ?_
        exact JoinQ.ar (p0.op == (52 : Int)) [0, 1, 2] (Option.some.inj h)
      have h := ifF hb6 h
      refine AW.rg mixed ?_
      exact JoinQ.ar (p0.op == (51 : Int)) [0, 1, 2] (Option.some.inj h)
    rintro v3_0 rfl
    have h := hJ4
    try dsimp only [Out.fin] at h
    refine nz ?_
    refine AW.ts v3_0 (fun hb7 => ?_) (fun hb7 => ?_)
    · have h := ifT hb7 h
      refine AW.op mixed ?_
      apply obindE h; intro r8 hx9 h
      have hc := nx (static_BoundOf_ok (h := hx9))
      refine callP hc ?_
      refine AW.ret ?_
      obtain ⟨_, h, ho⟩ := outM_some h
      rw [ho, Out.fin_out] at hJ2
      have h := h.trans hJ2
      obtain rfl := Option.some.inj h
      refine nz ?_
      exact .same _
    have h := ifF hb7 h
    refine AW.op mixed ?_
    refine AW.kp [0, 1, 2] [1, 2, 3, 7, 14] ?_
    refine AW.ts (p0.op == (54 : Int)) (fun hb10 => ?_) (fun hb10 => ?_)
    · have h := ifT hb10 h
      refine AW.op mixed ?_
      refine AW.kp [1, 2] [2, 3, 17, 18, 19] ?_
      refine AW.cutS [0, 1] [] [] [(1, ⟨2, [[.d (.val (.bool false)), .d (slD strV [])]]⟩)] [(2, .ptr 0 2 0 0), (3, .ptr 1 2 0 0), (17, .d (slD NodeA.enc p0.kids)), (18, .d (.val (.int .i64 (p0.kids.length : Int)))), (19, .d (.val (.int .i64 (0 : Int))))] [some ⟨2, [[.d (.val (.bool false)), .d (.val (.slice none 0 0))]]⟩, some ⟨2, [[.d (.val (.bool false)), .d (slD strV [])]]⟩] (by simp only [go_sem, reduceEqDiff, reduceAdd, reduceSub, reduceMul, reduceLeDiff, reduceLT, Nat.reduceBEq, reduceIte, sealL_cons, sealL_nil]) (by simp only [go_sem, reduceEqDiff, reduceAdd, reduceSub, reduceMul, reduceLeDiff, reduceLT, Nat.reduceBEq, reduceIte, sealH_cons, sealH_nil]; exact ⟨⟨.same _, .nil, trivial⟩, trivial⟩) (by simp only [go_sem, reduceEqDiff, reduceAdd, reduceSub, reduceMul, reduceLeDiff, reduceLT, Nat.reduceBEq, reduceIte]) ?_
      refine obindE h fun oJ18 h hJ18 => ?_
      refine AW.join (S := Api_NamesA) (fun e16_0 => [(2, .ptr 0 2 0 0), (3, .ptr 1 2 0 0)]) (fun e16_0 => [some ⟨2, [[.d (.val (.bool false)), .d (.val (.slice none 0 0))]]⟩, some ⟨2, [[.d (.val (.bool e16_0.all)), .d (slD strV e16_0.list)]]⟩]) (fun x => x = oJ18) ?_ ?_
      · refine AW.block ?_
        refine AW.iter (S := Int × Api_NamesA) (fun (i15_0, i15_1) => [(2, .ptr 0 2 0 0), (3, .ptr 1 2 0 0), (17, .d (slD NodeA.enc p0.kids)), (18, .d (.val (.int .i64 (p0.kids.length : Int)))), (19, .d (.val (.int .i64 i15_0)))]) (fun (i15_0, i15_1) => [some ⟨2, [[.d (.val (.bool false)), .d (.val (.slice none 0 0))]]⟩, some ⟨2, [[.d (.val (.bool i15_1.all)), .d (slD strV i15_1.list)]]⟩]) [0, 1] h (by simp only [go_sem, reduceEqDiff, reduceAdd, reduceSub, reduceMul, reduceLeDiff, reduceLT, Nat.reduceBEq, reduceIte]) ?_
        rintro again ⟨i15_0, i15_1⟩ h
        try dsimp only at h
        refine AW.op mixed ?_
        refine AW.kp [0, 1] [2, 3, 17, 18, 19, 20] ?_
        refine AW.one ?_
        refine AW.ts (decide (i15_0 < (p0.kids.length : Int))) (fun hb19 => ?_) (fun hb19 => ?_)
        · have h := ifT hb19 h
          refine AW.sk ?_
          refine AW.kp [0, 1] [2, 3, 17, 18, 19] ?_
          refine AW.one ?_
          refine obindE h fun oJ21 h hJ21 => ?_
          refine AW.join (S := Api_NamesA) (fun v20_0 => [(2, .ptr 0 2 0 0), (3, .ptr 1 2 0 0), (17, .d (slD NodeA.enc p0.kids)), (18, .d (.val (.int .i64 (p0.kids.length : Int)))), (19, .d (.val (.int .i64 i15_0)))]) (fun v20_0 => [some ⟨2, [[.d (.val (.bool false)), .d (.val (.slice none 0 0))]]⟩, some ⟨2, [[.d (.val (.bool v20_0.all)), .d (slD strV v20_0.list)]]⟩]) (fun x => x = oJ21) ?_ ?_
          · skip
            refine AW.block ?_
            refine AW.one ?_
            refine AW.reg mixed (by kernel_rfl) ?_
            apply obindE h; intro x22 hx23 h
            try simp only [go_sem, reduceEqDiff, reduceAdd, reduceSub, reduceMul, reduceLeDiff, reduceLT, Nat.reduceBEq, reduceIte, (idx_some hx23).1, (idx_some hx23).2]
            refine AW.cut [0, 1, 4] [(2, .ptr 0 2 0 0), (3, .ptr 1 2 0 0), (5, .ptr 2 6 0 0), (17, .d (slD NodeA.enc p0.kids)), (18, .d (.val (.int .i64 (p0.kids.length : Int)))), (19, .d (.val (.int .i64 i15_0)))] [some ⟨2, [[.d (.val (.bool false)), .d (.val (.slice none 0 0))]]⟩, some ⟨2, [[.d (.val (.bool i15_1.all)), .d (slD strV i15_1.list)]]⟩, some ⟨6, [[.d (.val (.int .i64 x22.op)), .d (.val (.string x22.name)), .d (.val (.bool x22.num.neg)), .d (slD u32V x22.num.num), .d (slD u32V x22.num.den), .d (slD NodeA.enc x22.kids)]]⟩] (by simp only [go_sem, reduceEqDiff, reduceAdd, reduceSub, reduceMul, reduceLeDiff, reduceLT, Nat.reduceBEq, reduceIte, (idx_some hx23).1, (idx_some hx23).2]) ?_
            refine AW.op mixed ?_
            refine AW.kp [0, 1, 2] [2, 3, 5, 17, 18, 19, 25] ?_
            refine AW.ts (x22.op == (55 : Int)) (fun hb24 => ?_) (fun hb24 => ?_)
            · have h := ifT hb24 h
              refine AW.rg mixed ?_
              apply obindE h; intro r25 hx26 h
              have hc := nx (static_BoundOf_ok (h := hx26))
              refine callD hc ?_
              apply obindE h; intro r27 hx28 h
              have hc := nx (static_union_ok (h := hx28))
              refine callD hc ?_
              exact JoinQ.ar r27 [0, 1] (Option.some.inj h)
            have h := ifF hb24 h
            refine AW.sk ?_
            exact JoinQ.ar i15_1 [0, 1] (Option.some.inj h)
          rintro v20_0 rfl
          have h := hJ21
          try dsimp only [Out.fin] at h
          refine nz ?_
          refine AW.rg mixed ?_
          exact NextQ.ar (IntKind.wrap .i64 (i15_0 + (1 : Int)), v20_0) [0, 1] h
        have h := ifF hb19 h
        refine AW.ex ?_
        exact JoinQ.ar i15_1 [0, 1] (Option.some.inj h)
      rintro e16_0 rfl
      have h := hJ18
      try dsimp only [Out.fin] at h
      refine nz ?_
      exact JoinQ.ar (e16_0.all, e16_0.list) [0, 1] (Option.some.inj h).symm
    have h := ifF hb10 h
    refine AW.op mixed ?_
    refine AW.kp [0, 1, 2] [1, 2, 3, 7, 31] ?_
    refine AW.ts (p0.op == (57 : Int)) (fun hb29 => ?_) (fun hb29 => ?_)
    · have h := ifT hb29 h
      refine AW.one ?_
      refine AW.reg mixed (by kernel_rfl) ?_
      apply obindE h; intro x30 hx31 h
      try simp only [go_sem, reduceEqDiff, reduceAdd, reduceSub, reduceMul, reduceLeDiff, reduceLT, Nat.reduceBEq, reduceIte, (idx_some hx31).1, (idx_some hx31).2]
      apply obindE h; intro r32 hx33 h
      have hc := nx (hself66 _ _ hx33)
      refine pcallK_intro hc (by simp only [go_sem, reduceEqDiff, reduceAdd, reduceSub, reduceMul, reduceLeDiff, reduceLT, Nat.reduceBEq, reduceIte]) ?_
      apply obindE h; intro x34 hx35 h
      try simp only [go_sem, reduceEqDiff, reduceAdd, reduceSub, reduceMul, reduceLeDiff, reduceLT, Nat.reduceBEq, reduceIte, (idx_some hx31).1, (idx_some hx31).2, (idx_some hx35).1, (idx_some hx35).2]
      apply obindE h; intro r36 hx37 h
      have hc := nx (hself66 _ _ hx37)
      refine pcallK_intro hc (by simp only [go_sem, reduceEqDiff, reduceAdd, reduceSub, reduceMul, reduceLeDiff, reduceLT, Nat.reduceBEq, reduceIte]) ?_
      try simp only [go_sem, reduceEqDiff, reduceAdd, reduceSub, reduceMul, reduceLeDiff, reduceLT, Nat.reduceBEq, reduceIte, (idx_some hx31).1, (idx_some hx31).2, (idx_some hx35).1, (idx_some hx35).2]
      apply obindE h; intro r38 hx39 h
      have hc := nx (static_union_ok (h := hx39))
      refine pcallK_intro hc (by simp only [go_sem, reduceEqDiff, reduceAdd, reduceSub, reduceMul, reduceLeDiff, reduceLT, Nat.reduceBEq, reduceIte]) ?_
      try simp only [go_sem, reduceEqDiff, reduceAdd, reduceSub, reduceMul, reduceLeDiff, reduceLT, Nat.reduceBEq, reduceIte, (idx_some hx31).1, (idx_some hx31).2, (idx_some hx35).1, (idx_some hx35).2]
      refine AW.ret ?_
      obtain ⟨_, h, ho⟩ := outM_some h
      rw [ho, Out.fin_out] at hJ2
      have h := h.trans hJ2
      obtain rfl := Option.some.inj h
      refine nz ?_
      exact .same _
    have h := ifF hb29 h
    refine AW.op mixed ?_
    refine AW.kp [0, 1, 2] [1, 2, 3, 7, 44] ?_
    refine AW.ts (p0.op == (58 : Int)) (fun hb40 => ?_) (fun hb40 => ?_)
    · have h := ifT hb40 h
      refine AW.one ?_
      refine AW.reg mixed (by kernel_rfl) ?_
      apply obindE h; intro x41 hx42 h
      try simp only [go_sem, reduceEqDiff, reduceAdd, reduceSub, reduceMul, reduceLeDiff, reduceLT, Nat.reduceBEq, reduceIte, (idx_some hx42).1, (idx_some hx42).2]
      apply obindE h; intro r43 hx44 h
      have hc := nx (hself66 _ _ hx44)
      refine pcallK_intro hc (by simp only [go_sem, reduceEqDiff, reduceAdd, reduceSub, reduceMul, reduceLeDiff, reduceLT, Nat.reduceBEq, reduceIte]) ?_
      apply obindE h; intro x45 hx46 h
      try simp only [go_sem, reduceEqDiff, reduceAdd, reduceSub, reduceMul, reduceLeDiff, reduceLT, Nat.reduceBEq, reduceIte, (idx_some hx42).1, (idx_some hx42).2, (idx_some hx46).1, (idx_some hx46).2]
      apply obindE h; intro r47 hx48 h
      have hc := nx (hself66 _ _ hx48)
      refine pcallK_intro hc (by simp only [go_sem, reduceEqDiff, reduceAdd, reduceSub, reduceMul, reduceLeDiff, reduceLT, Nat.reduceBEq, reduceIte]) ?_
      try simp only [go_sem, reduceEqDiff, reduceAdd, reduceSub, reduceMul, reduceLeDiff, reduceLT, Nat.reduceBEq, reduceIte, (idx_some hx42).1, (idx_some hx42).2, (idx_some hx46).1, (idx_some hx46).2]
      apply obindE h; intro r49 hx50 h
      have hc := nx (static_meet_ok (h := hx50))
      refine pcallK_intro hc (by simp only [go_sem, reduceEqDiff, reduceAdd, reduceSub, reduceMul, reduceLeDiff, reduceLT, Nat.reduceBEq, reduceIte]) ?_
      try simp only [go_sem, reduceEqDiff, reduceAdd, reduceSub, reduceMul, reduceLeDiff, reduceLT, Nat.reduceBEq, reduceIte, (idx_some hx42).1, (idx_some hx42).2, (idx_some hx46).1, (idx_some hx46).2]
      refine AW.ret ?_
      obtain ⟨_, h, ho⟩ := outM_some h
      rw [ho, Out.fin_out] at hJ2
      have h := h.trans hJ2
      obtain rfl := Option.some.inj h
      refine nz ?_
      exact .same _
    have h := ifF hb40 h
    refine AW.op mixed ?_
    refine AW.kp [0, 1, 2] [1, 2, 3, 57] ?_
    refine AW.ts (p0.op == (60 : Int)) (fun hb51 => ?_) (fun hb51 => ?_)
    · have h := ifT hb51 h
      refine AW.one ?_
      refine AW.reg mixed (by kernel_rfl) ?_
      apply obindE h; intro x52 hx53 h
      try simp only [go_sem, reduceEqDiff, reduceAdd, reduceSub, reduceMul, reduceLeDiff, reduceLT, Nat.reduceBEq, reduceIte, (idx_some hx53).1, (idx_some hx53).2]
      apply obindE h; intro r54 hx55 h
      have hc := nx (hself66 _ _ hx55)
      refine callK_pure hc (by simp only [go_sem, reduceEqDiff, reduceAdd, reduceSub, reduceMul, reduceLeDiff, reduceLT, Nat.reduceBEq, reduceIte]) ?_
      try simp only [go_sem, reduceEqDiff, reduceAdd, reduceSub, reduceMul, reduceLeDiff, reduceLT, Nat.reduceBEq, reduceIte, (idx_some hx53).1, (idx_some hx53).2]
      refine AW.ret ?_
      obtain ⟨_, h, ho⟩ := outM_some h
      rw [ho, Out.fin_out] at hJ2
      have h := h.trans hJ2
      obtain rfl := Option.some.inj h
      refine nz ?_
      exact .same _
    have h := ifF hb51 h
    refine AW.sk ?_
    refine JoinQ.mkS (false, []) [1, 2] [] [] [(2, ⟨2, [[.d (.val (.bool false)), .d (slD strV [])]]⟩)] (Option.some.inj h).symm (by simp only [go_sem, reduceEqDiff, reduceAdd, reduceSub, reduceMul, reduceLeDiff, reduceLT, Nat.reduceBEq, reduceIte, sealL_cons, sealL_nil]) (by simp only [go_sem, reduceEqDiff, reduceAdd, reduceSub, reduceMul, reduceLeDiff, reduceLT, Nat.reduceBEq, reduceIte, sealH_cons, sealH_nil]; exact ⟨⟨.same _, .nil, trivial⟩, trivial⟩) (by simp only [go_sem, reduceEqDiff, reduceAdd, reduceSub, reduceMul, reduceLeDiff, reduceLT, Nat.reduceBEq, reduceIte])
  rintro ⟨v1_0, v1_1⟩ rfl
  have h := hJ2
  try dsimp only [Out.fin] at h
  refine nz ?_
  refine AW.op mixed ?_
  refine AW.ret ?_
  obtain rfl := Option.some.inj h
  refine nz ?_
  exact .same _
def static_MustOf (K : Nat) (p0 : NodeA) : Option Api_NamesA := iter K (fun self q => static_MustOf_body K self q) p0
theorem key_static_MustOf {K : Nat} (k : Nat) : (∀ (q : NodeA) (r : Api_NamesA), iter k (fun self q => static_MustOf_body K self q) q = some r → Cn Tryz.prog 66 [aggV q.enc] (aggV r.enc)) := by
  induction k with
  | zero => exact fun q r h => by cases h
  | succ k ih => exact fun q r h => static_MustOf_step K _ ih q r h
theorem static_MustOf_ok {K : Nat} {p0 : NodeA} {r : Api_NamesA} (h : static_MustOf K p0 = some r) : Cn Tryz.prog 66 [aggV p0.enc] (aggV r.enc) := (key_static_MustOf K) p0 r h
/-! ### isochrone/static.minus -/
def static_minus (K : Nat) (p0 : Api_NamesA) (p1 : Api_NamesA) : Option Api_NamesA := (static_not K p1).bind fun r1 => 
  (static_meet K p0 r1).bind fun r3 => 
  some r3
set_option maxHeartbeats 4000000 in
theorem static_minus_ok {K : Nat} {p0 : Api_NamesA} {p1 : Api_NamesA} {r : Api_NamesA} (h : static_minus K p0 p1 = some r) : Cn Tryz.prog 64 [aggV p0.enc, aggV p1.enc] (aggV r.enc) := by
  refine Cn.ofA mixed Tryz.func64 rfl Tryz.call64 Tryz.ntmps64 Tryz.results64 (by simp) (by simp only [go_sem, reduceEqDiff, reduceAdd, reduceSub, reduceMul, reduceLeDiff, reduceLT, Nat.reduceBEq, reduceIte]) fun hfit => ?_
  unfold static_minus at h
  refine AW.kp [] [0, 1] ?_
  refine AW.op mixed ?_
  refine AW.kp [0, 1, 2] [2, 3, 4] ?_
  refine AW.op mixed ?_
  apply obindE h; intro r1 hx2 h
  have hc := nx (static_not_ok (h := hx2))
  refine callD hc ?_
  apply obindE h; intro r3 hx4 h
  have hc := nx (static_meet_ok (h := hx4))
  refine callD hc ?_
  refine AW.ret ?_
  obtain rfl := Option.some.inj h
  refine nz ?_
  exact .same _
attribute [go_sem] toRow_acc rowOk_acc
theorem sorts : Sorts Tryz.prog 95 := ⟨Tryz.call95, fun blk off cap ss w h1 h2 h3 => Tryz.sort_Strings blk off cap ss w h1 h2 h3, fun p cap w => Tryz.sort_Strings_none p cap w⟩
/-! ### isochrone/static.primes -/
def static_primes (K : Nat) (p0 : Api_NamesA) : Option Api_NamesA := if p0.all then
    (static_everything K ).bind fun r2 => 
    some r2
  else
    ((iter (S := Int × (List ByteArray)) (R := (List ByteArray)) K (fun again (i4_0, i4_1) => 
      if (decide (i4_0 < (p0.list.length : Int))) then
        ((
          (idx p0.list i4_0).bind fun x11 => 
          (strAt x11 (IntKind.wrap .i64 ((x11.size : Int) - (1 : Int)))).bind fun c13 => 
          if ((c13.toNat : Int) != (39 : Int)) then
            (catO x11 (⟨#[39]⟩ : ByteArray)).bind fun s16 => 
            (appO 16 i4_1 [s16]).bind fun l18 => 
            some l18
          else
            some i4_1) : Option (List ByteArray)).bind (fun v9_0 => 
        again (IntKind.wrap .i64 (i4_0 + (1 : Int)), v9_0))
      else
        some i4_1) ((0 : Int), [])) : Option (List ByteArray)).bind (fun e5_0 => 
    (sortO e5_0).bind fun l20 => 
    (static_union K p0 (Api_NamesA.mk false l20)).bind fun r22 => 
    some r22)
set_option maxHeartbeats 4000000 in
theorem static_primes_ok {K : Nat} {p0 : Api_NamesA} {r : Api_NamesA} (h : static_primes K p0 = some r) : Cn Tryz.prog 63 [aggV p0.enc] (aggV r.enc) := by
  refine Cn.ofA mixed Tryz.func63 rfl Tryz.call63 Tryz.ntmps63 Tryz.results63 (by simp) (by simp only [go_sem, reduceEqDiff, reduceAdd, reduceSub, reduceMul, reduceLeDiff, reduceLT, Nat.reduceBEq, reduceIte]) fun hfit => ?_
  unfold static_primes at h
  refine AW.kp [] [0] ?_
  refine AW.op mixed ?_
  refine AW.kp [0, 1] [1, 2] ?_
  refine AW.one ?_
  refine AW.op mixed ?_
  refine AW.kp [0, 1] [1, 2, 7] ?_
  refine AW.ts p0.all (fun hb1 => ?_) (fun hb1 => ?_)
  · have h := ifT hb1 h
    refine AW.op mixed ?_
    apply obindE h; intro r2 hx3 h
    have hc := nx (static_everything_ok (h := hx3))
    refine callP hc ?_
    refine AW.ret ?_
    obtain rfl := Option.some.inj h
    refine nz ?_
    exact .same _
  have h := ifF hb1 h
  refine AW.sk ?_
  refine AW.kp [0, 1] [1, 2] ?_
  refine AW.op mixed ?_
  refine AW.kp [0, 1] [1, 2, 3] ?_
  refine AW.one ?_
  refine AW.op mixed ?_
  refine AW.kp [0, 1] [1, 2, 3, 10, 11, 12] ?_
  refine obindE h fun oJ7 h hJ7 => ?_
  refine AW.join (S := (List ByteArray)) (fun e5_0 => [(1, .ptr 0 2 0 0), (2, .ptr 1 2 0 0), (3, accV 2 1 ((e5_0.map strV).map (·.map .d)))]) (fun e5_0 => [some ⟨2, [[.d (.val (.bool p0.all)), .d (slD strV p0.list)]]⟩, some ⟨2, [[.d (.val (.bool false)), .d (.val (.slice none 0 0))]]⟩, accO 1 ((e5_0.map strV).map (·.map .d))]) (fun x => x = oJ7) ?_ ?_
  · refine AW.block ?_
    refine AW.iter (S := Int × (List ByteArray)) (fun (i4_0, i4_1) => [(1, .ptr 0 2 0 0), (2, .ptr 1 2 0 0), (3, accV 2 1 ((i4_1.map strV).map (·.map .d))), (10, .d (slD strV p0.list)), (11, .d (.val (.int .i64 (p0.list.length : Int)))), (12, .d (.val (.int .i64 i4_0)))]) (fun (i4_0, i4_1) => [some ⟨2, [[.d (.val (.bool p0.all)), .d (slD strV p0.list)]]⟩, some ⟨2, [[.d (.val (.bool false)), .d (.val (.slice none 0 0))]]⟩, accO 1 ((i4_1.map strV).map (·.map .d))]) [0, 1, 1002] h (by simp only [go_sem, reduceEqDiff, reduceAdd, reduceSub, reduceMul, reduceLeDiff, reduceLT, Nat.reduceBEq, reduceIte]) ?_
    rintro again ⟨i4_0, i4_1⟩ h
    try dsimp only at h
    refine AW.op mixed ?_
    refine AW.cu [0, 1, 2] [(1, .ptr 0 2 0 0), (2, .ptr 1 2 0 0), (3, accV 2 1 ((i4_1.map strV).map (·.map .d))), (10, .d (slD strV p0.list)), (11, .d (.val (.int .i64 (p0.list.length : Int)))), (12, .d (.val (.int .i64 i4_0))), (13, .d (.val (.bool (decide (i4_0 < (p0.list.length : Int))))))] [some ⟨2, [[.d (.val (.bool p0.all)), .d (slD strV p0.list)]]⟩, some ⟨2, [[.d (.val (.bool false)), .d (.val (.slice none 0 0))]]⟩, accO 1 ((i4_1.map strV).map (·.map .d))] ?_
    refine AW.one ?_
    refine AW.ts (decide (i4_0 < (p0.list.length : Int))) (fun hb8 => ?_) (fun hb8 => ?_)
    · have h := ifT hb8 h
      refine AW.sk ?_
      refine AW.cu [0, 1, 2] [(1, .ptr 0 2 0 0), (2, .ptr 1 2 0 0), (3, accV 2 1 ((i4_1.map strV).map (·.map .d))), (10, .d (slD strV p0.list)), (11, .d (.val (.int .i64 (p0.list.length : Int)))), (12, .d (.val (.int .i64 i4_0)))] [some ⟨2, [[.d (.val (.bool p0.all)), .d (slD strV p0.list)]]⟩, some ⟨2, [[.d (.val (.bool false)), .d (.val (.slice none 0 0))]]⟩, accO 1 ((i4_1.map strV).map (·.map .d))] ?_
      refine AW.one ?_
      refine obindE h fun oJ10 h hJ10 => ?_
      refine AW.join (S := (List ByteArray)) (fun v9_0 => [(1, .ptr 0 2 0 0), (2, .ptr 1 2 0 0), (3, accV 2 1 ((v9_0.map strV).map (·.map .d))), (10, .d (slD strV p0.list)), (11, .d (.val (.int .i64 (p0.list.length : Int)))), (12, .d (.val (.int .i64 i4_0)))]) (fun v9_0 => [some ⟨2, [[.d (.val (.bool p0.all)), .d (slD strV p0.list)]]⟩, some ⟨2, [[.d (.val (.bool false)), .d (.val (.slice none 0 0))]]⟩, accO 1 ((v9_0.map strV).map (·.map .d))]) (fun x => x = oJ10) ?_ ?_
      · skip
        refine AW.block ?_
        refine AW.one ?_
        refine AW.reg mixed (by kernel_rfl) ?_
        apply obindE h; intro x11 hx12 h
        try simp only [go_sem, reduceEqDiff, reduceAdd, reduceSub, reduceMul, reduceLeDiff, reduceLT, Nat.reduceBEq, reduceIte, (idx_some hx12).1, (idx_some hx12).2]
        refine AW.cut [0, 1, 2] [(1, .ptr 0 2 0 0), (2, .ptr 1 2 0 0), (3, accV 2 1 ((i4_1.map strV).map (·.map .d))), (5, .d (.val (.string x11))), (10, .d (slD strV p0.list)), (11, .d (.val (.int .i64 (p0.list.length : Int)))), (12, .d (.val (.int .i64 i4_0)))] [some ⟨2, [[.d (.val (.bool p0.all)), .d (slD strV p0.list)]]⟩, some ⟨2, [[.d (.val (.bool false)), .d (.val (.slice none 0 0))]]⟩, accO 1 ((i4_1.map strV).map (·.map .d))] (by simp only [go_sem, reduceEqDiff, reduceAdd, reduceSub, reduceMul, reduceLeDiff, reduceLT, Nat.reduceBEq, reduceIte, (idx_some hx12).1, (idx_some hx12).2]) ?_
        refine AW.one ?_
        refine AW.reg mixed (by kernel_rfl) ?_
        apply obindE h; intro c13 hx14 h
        try simp only [go_sem, reduceEqDiff, reduceAdd, reduceSub, reduceMul, reduceLeDiff, reduceLT, Nat.reduceBEq, reduceIte, hx14]
        refine AW.cut [0, 1, 2] [(1, .ptr 0 2 0 0), (2, .ptr 1 2 0 0), (3, accV 2 1 ((i4_1.map strV).map (·.map .d))), (5, .d (.val (.string x11))), (10, .d (slD strV p0.list)), (11, .d (.val (.int .i64 (p0.list.length : Int)))), (12, .d (.val (.int .i64 i4_0))), (21, .d (.val (.bool ((c13.toNat : Int) != (39 : Int)))))] [some ⟨2, [[.d (.val (.bool p0.all)), .d (slD strV p0.list)]]⟩, some ⟨2, [[.d (.val (.bool false)), .d (.val (.slice none 0 0))]]⟩, accO 1 ((i4_1.map strV).map (·.map .d))] (by simp only [go_sem, reduceEqDiff, reduceAdd, reduceSub, reduceMul, reduceLeDiff, reduceLT, Nat.reduceBEq, reduceIte, hx14]) ?_
        refine AW.ts ((c13.toNat : Int) != (39 : Int)) (fun hb15 => ?_) (fun hb15 => ?_)
        · have h := ifT hb15 h
          refine AW.rg mixed ?_
          apply obindE h; intro s16 hx17 h
          try simp only [go_sem, reduceEqDiff, reduceAdd, reduceSub, reduceMul, reduceLeDiff, reduceLT, Nat.reduceBEq, reduceIte, bop_cat (P := Tryz.prog) hx17]
          apply obindE h; intro l18 hx19 h
          refine appG hx19 rfl (by simp only [go_sem, reduceEqDiff, reduceAdd, reduceSub, reduceMul, reduceLeDiff, reduceLT, Nat.reduceBEq, reduceIte, bop_cat (P := Tryz.prog) hx17]) (by simp only [go_sem, reduceEqDiff, reduceAdd, reduceSub, reduceMul, reduceLeDiff, reduceLT, Nat.reduceBEq, reduceIte, bop_cat (P := Tryz.prog) hx17]) (by simp only [go_sem, reduceEqDiff, reduceAdd, reduceSub, reduceMul, reduceLeDiff, reduceLT, Nat.reduceBEq, reduceIte, bop_cat (P := Tryz.prog) hx17]) (by simp) ?_
          try simp only [go_sem, reduceEqDiff, reduceAdd, reduceSub, reduceMul, reduceLeDiff, reduceLT, Nat.reduceBEq, reduceIte, bop_cat (P := Tryz.prog) hx17]
          refine JoinQ.mk l18 [0, 1, 7] (Option.some.inj h) (by simp only [go_sem, reduceEqDiff, reduceAdd, reduceSub, reduceMul, reduceLeDiff, reduceLT, Nat.reduceBEq, reduceIte, bop_cat (P := Tryz.prog) hx17])
        have h := ifF hb15 h
        refine AW.sk ?_
        exact JoinQ.ar i4_1 [0, 1, 2] (Option.some.inj h)
      rintro v9_0 rfl
      have h := hJ10
      try dsimp only [Out.fin] at h
      refine nz ?_
      refine AW.rg mixed ?_
      exact NextQ.ar (IntKind.wrap .i64 (i4_0 + (1 : Int)), v9_0) [0, 1, 2] h
    have h := ifF hb8 h
    refine AW.ex ?_
    exact JoinQ.ar i4_1 [0, 1, 2] (Option.some.inj h)
  rintro e5_0 rfl
  have h := hJ7
  try dsimp only [Out.fin] at h
  refine nz ?_
  refine AW.cu [0, 1, 2] [(1, .ptr 0 2 0 0), (2, .ptr 1 2 0 0), (3, accV 2 1 ((e5_0.map strV).map (·.map .d)))] [some ⟨2, [[.d (.val (.bool p0.all)), .d (slD strV p0.list)]]⟩, some ⟨2, [[.d (.val (.bool false)), .d (.val (.slice none 0 0))]]⟩, accO 1 ((e5_0.map strV).map (·.map .d))] ?_
  refine AW.op mixed ?_
  apply obindE h; intro l20 hx21 h
  refine callK_sort sorts hx21 (by simp only [go_sem, reduceEqDiff, reduceAdd, reduceSub, reduceMul, reduceLeDiff, reduceLT, Nat.reduceBEq, reduceIte]) ?_
  try simp only [go_sem, reduceEqDiff, reduceAdd, reduceSub, reduceMul, reduceLeDiff, reduceLT, Nat.reduceBEq, reduceIte, accV_sort hx21]
  refine AW.cut [0, 1, 2] [(1, .ptr 0 2 0 0), (2, .ptr 1 2 0 0), (3, accV 2 1 ((l20.map strV).map (·.map .d)))] [some ⟨2, [[.d (.val (.bool p0.all)), .d (slD strV p0.list)]]⟩, some ⟨2, [[.d (.val (.bool false)), .d (.val (.slice none 0 0))]]⟩, accO 1 ((l20.map strV).map (·.map .d))] (by simp only [go_sem, reduceEqDiff, reduceAdd, reduceSub, reduceMul, reduceLeDiff, reduceLT, Nat.reduceBEq, reduceIte, accV_sort hx21]) ?_
  refine AW.op mixed ?_
  apply obindE h; intro r22 hx23 h
  have hc := nx (static_union_ok (h := hx23))
  refine callK_seal [2] hc ⟨.same _, .aggL ⟨.same _, sealAcc (by simp only [go_sem, reduceEqDiff, reduceAdd, reduceSub, reduceMul, reduceLeDiff, reduceLT, Nat.reduceBEq, reduceIte]), trivial⟩, trivial⟩ (by simp only [go_sem, reduceEqDiff, reduceAdd, reduceSub, reduceMul, reduceLeDiff, reduceLT, Nat.reduceBEq, reduceIte]) (by simp only [go_sem, reduceEqDiff, reduceAdd, reduceSub, reduceMul, reduceLeDiff, reduceLT, Nat.reduceBEq, reduceIte]) ?_
  try simp only [go_sem, reduceEqDiff, reduceAdd, reduceSub, reduceMul, reduceLeDiff, reduceLT, Nat.reduceBEq, reduceIte]
  refine AW.ret ?_
  obtain rfl := Option.some.inj h
  refine nz ?_
  exact .same _
/-! ### isochrone/static.FreeOf -/
def static_FreeOf_body (K : Nat) (self28 : NodeA → Option Api_NamesA) (p0 : NodeA) : Option Api_NamesA := ((
    if (p0.op == (2 : Int)) then
      (static_one K p0.name).bind fun r4 => 
      outM (
        some r4)
    else
      if (p0.op == (3 : Int)) then
        (catO p0.name (⟨#[39]⟩ : ByteArray)).bind fun s7 => 
        (static_one K s7).bind fun r9 => 
        outM (
          some r9)
      else
        ((
          if (p0.op == (11 : Int)) then
            some (p0.op == (11 : Int))
          else
            if (p0.op == (38 : Int)) then
              some (p0.op == (38 : Int))
            else
              if (p0.op == (61 : Int)) then
                some (p0.op == (61 : Int))
              else
                if (p0.op == (62 : Int)) then
                  some (p0.op == (62 : Int))
                else
                  some (p0.op == (56 : Int))) : Option Bool).bind (fun v11_0 => 
        if v11_0 then
          (static_everything K ).bind fun r18 => 
          outM (
            some r18)
        else
          ((
            if (p0.op == (12 : Int)) then
              some (p0.op == (12 : Int))
            else
              some (p0.op == (39 : Int))) : Option Bool).bind (fun v20_0 => 
          if v20_0 then
            (idx p0.kids (0 : Int)).bind fun x24 => 
            (self28 (x24)).bind fun r26 => 
            (static_primes K r26).bind fun r28 => 
            outM (
              some r28)
          else
            ((
              if (p0.op == (33 : Int)) then
                some (p0.op == (33 : Int))
              else
                some (p0.op == (34 : Int))) : Option Bool).bind (fun v30_0 => 
            if v30_0 then
              (idx p0.kids (0 : Int)).bind fun x34 => 
              (self28 (x34)).bind fun r36 => 
              (static_one K p0.name).bind fun r38 => 
              (static_minus K r36 r38).bind fun r40 => 
              outM (
                some r40)
            else
              ((
                if (p0.op == (35 : Int)) then
                  some (p0.op == (35 : Int))
                else
                  if (p0.op == (36 : Int)) then
                    some (p0.op == (36 : Int))
                  else
                    some (p0.op == (57 : Int))) : Option Bool).bind (fun v42_0 => 
              if v42_0 then
                (idx p0.kids (0 : Int)).bind fun x47 => 
                (self28 (x47)).bind fun r49 => 
                (idx p0.kids (1 : Int)).bind fun x51 => 
                (self28 (x51)).bind fun r53 => 
                (static_MustOf K x47).bind fun r55 => 
                (static_minus K r53 r55).bind fun r57 => 
                (static_union K r49 r57).bind fun r59 => 
                outM (
                  some r59)
              else
                if (p0.op == (52 : Int)) then
                  outM (
                    some (Api_NamesA.mk false []))
                else
                  if (p0.op == (55 : Int)) then
                    (static_one K p0.name).bind fun r63 => 
                    some (.go (r63.all, r63.list))
                  else
                    some (.go (false, []))))))) : Option (Out (Bool × (List ByteArray)) _)).bind (Out.fin fun (v1_0, v1_1) => 
  ((iter (S := Int × Api_NamesA) (R := Api_NamesA) K (fun again (i65_0, i65_1) => 
    if (decide (i65_0 < (p0.kids.length : Int))) then
      (idx p0.kids i65_0).bind fun x70 => 
      (self28 (x70)).bind fun r72 => 
      (static_union K i65_1 r72).bind fun r74 => 
      again (IntKind.wrap .i64 (i65_0 + (1 : Int)), r74)
    else
      some i65_1) ((0 : Int), (Api_NamesA.mk v1_0 v1_1))) : Option Api_NamesA).bind (fun e66_0 => 
  some e66_0))
set_option maxHeartbeats 4000000 in
theorem static_FreeOf_step (K : Nat) (self28 : NodeA → Option Api_NamesA) (hself28 : ∀ (q : NodeA) (r : Api_NamesA), self28 q = some r → Cn Tryz.prog 28 [aggV q.enc] (aggV r.enc)) (p0 : NodeA) (r : Api_NamesA) (h : static_FreeOf_body K self28 p0 = some r) : Cn Tryz.prog 28 [aggV p0.enc] (aggV r.enc) := by
  refine Cn.ofA mixed Tryz.func28 rfl Tryz.call28 Tryz.ntmps28 Tryz.results28 (by simp) (by simp only [go_sem, reduceEqDiff, reduceAdd, reduceSub, reduceMul, reduceLeDiff, reduceLT, Nat.reduceBEq, reduceIte]) fun hfit => ?_
  unfold static_FreeOf_body at h
  refine AW.kp [] [0] ?_
  refine AW.op mixed ?_
  refine AW.kp [0, 1] [1, 2] ?_
  refine AW.op mixed ?_
  refine AW.kp [0, 1, 2] [1, 2, 3] ?_
  refine AW.one ?_
  refine obindE h fun oJ2 h hJ2 => ?_
  refine AW.join (S := Bool × (List ByteArray)) (fun (v1_0, v1_1) => [(1, .ptr 0 6 0 0), (2, .ptr 1 2 0 0), (3, .ptr 2 2 0 0)]) (fun (v1_0, v1_1) => [some ⟨6, [[.d (.val (.int .i64 p0.op)), .d (.val (.string p0.name)), .d (.val (.bool p0.num.neg)), .d (slD u32V p0.num.num), .d (slD u32V p0.num.den), .d (slD NodeA.enc p0.kids)]]⟩, some ⟨2, [[.d (.val (.bool false)), .d (.val (.slice none 0 0))]]⟩, some ⟨2, [[.d (.val (.bool v1_0)), .d (slD strV v1_1)]]⟩]) (fun x => oJ2 = .go x) ?_ ?_
  · skip
    refine AW.op mixed ?_
    refine AW.kp [0, 1, 2] [1, 2, 3, 7] ?_
    refine AW.block ?_
    refine AW.op mixed ?_
    refine AW.kp [0, 1, 2] [1, 2, 3, 7, 8] ?_
    refine AW.ts (p0.op == (2 : Int)) (fun hb3 => ?_) (fun hb3 => ?_)
    · have h := ifT hb3 h
      refine AW.op mixed ?_
      apply obindE h; intro r4 hx5 h
      have hc := nx (static_one_ok (h := hx5))
      refine callP hc ?_
      refine AW.ret ?_
      obtain ⟨_, h, ho⟩ := outM_some h
      rw [ho, Out.fin_out] at hJ2
      have h := h.trans hJ2
      obtain rfl := Option.some.inj h
      refine nz ?_
      exact .same _
    have h := ifF hb3 h
    refine AW.op mixed ?_
    refine AW.kp [0, 1, 2] [1, 2, 3, 7, 13] ?_
    refine AW.ts (p0.op == (3 : Int)) (fun hb6 => ?_) (fun hb6 => ?_)
    · have h := ifT hb6 h
      refine AW.op mixed ?_
      apply obindE h; intro s7 hx8 h
      try simp only [go_sem, reduceEqDiff, reduceAdd, reduceSub, reduceMul, reduceLeDiff, reduceLT, Nat.reduceBEq, reduceIte, bop_cat (P := Tryz.prog) hx8]
      apply obindE h; intro r9 hx10 h
      have hc := nx (static_one_ok (h := hx10))
      refine callK_pure hc (by simp only [go_sem, reduceEqDiff, reduceAdd, reduceSub, reduceMul, reduceLeDiff, reduceLT, Nat.reduceBEq, reduceIte]) ?_
      try simp only [go_sem, reduceEqDiff, reduceAdd, reduceSub, reduceMul, reduceLeDiff, reduceLT, Nat.reduceBEq, reduceIte, bop_cat (P := Tryz.prog) hx8]
      refine AW.ret ?_
      obtain ⟨_, h, ho⟩ := outM_some h
      rw [ho, Out.fin_out] at hJ2
      have h := h.trans hJ2
      obtain rfl := Option.some.inj h
      refine nz ?_
      exact .same _
    have h := ifF hb6 h
    refine AW.one ?_
    refine obindE h fun oJ12 h hJ12 => ?_
    refine AW.join (S := Bool) (fun v11_0 => [(1, .ptr 0 6 0 0), (2, .ptr 1 2 0 0), (3, .ptr 2 2 0 0), (7, .d (.val (.int .i64 p0.op))), (19, .d (.val (.bool v11_0)))]) (fun v11_0 => [some ⟨6, [[.d (.val (.int .i64 p0.op)), .d (.val (.string p0.name)), .d (.val (.bool p0.num.neg)), .d (slD u32V p0.num.num), .d (slD u32V p0.num.den), .d (slD NodeA.enc p0.kids)]]⟩, some ⟨2, [[.d (.val (.bool false)), .d (.val (.slice none 0 0))]]⟩, some ⟨2, [[.d (.val (.bool false)), .d (.val (.slice none 0 0))]]⟩]) (fun x => x = oJ12) ?_ ?_
    · skip
      refine AW.op mixed ?_
      refine AW.kp [0, 1, 2] [1, 2, 3, 7, 19] ?_
      refine AW.ts (p0.op == (11 : Int)) (fun hb13 => ?_) (fun hb13 => ?_)
      · have h := ifT hb13 h
        refine AW.sk ?_
        exact JoinQ.ar (p0.op == (11 : Int)) [0, 1, 2] (Option.some.inj h)
      have h := ifF hb13 h
      refine AW.op mixed ?_
      refine AW.kp [0, 1, 2] [1, 2, 3, 7, 19] ?_
      refine AW.ts (p0.op == (38 : Int)) (fun hb14 => ?_) (fun hb14 => ?_)
      · have h := ifT hb14 h
        refine AW.sk ?_
        exact JoinQ.ar (p0.op == (38 : Int)) [0, 1, 2] (Option.some.inj h)
      have h := ifF hb14 h
      refine AW.op mixed ?_
      refine AW.kp [0, 1, 2] [1, 2, 3, 7, 19] ?_
      refine AW.ts (p0.op == (61 : Int)) (fun hb15 => ?_) (fun hb15 => ?_)
      · have h := ifT hb15 h
        refine AW.sk ?_
        exact JoinQ.ar (p0.op == (61 : Int)) [0, 1, 2] (Option.some.inj h)
      have h := ifF hb15 h
      refine AW.op mixed ?_
      refine AW.kp [0, 1, 2] [1, 2, 3, 7, 19] ?_
      refine AW.ts (p0.op == (62 : Int)) (fun hb16 => ?_) (fun hb16 => ?_)
      · have h := ifT hb16 h
        refine AW.sk ?_
        exact JoinQ.ar (p0.op == (62 : Int)) [0, 1, 2] (Option.some.inj h)
      have h := ifF hb16 h
      refine AW.rg mixed ?_
      exact JoinQ.ar (p0.op == (56 : Int)) [0, 1, 2] (Option.some.inj h)
    rintro v11_0 rfl
    have h := hJ12
    try dsimp only [Out.fin] at h
    refine nz ?_
    refine AW.ts v11_0 (fun hb17 => ?_) (fun hb17 => ?_)
    · have h := ifT hb17 h
      refine AW.op mixed ?_
      apply obindE h; intro r18 hx19 h
      have hc := nx (static_everything_ok (h := hx19))
      refine callP hc ?_
      refine AW.ret ?_
      obtain ⟨_, h, ho⟩ := outM_some h
      rw [ho, Out.fin_out] at hJ2
      have h := h.trans hJ2
      obtain rfl := Option.some.inj h
      refine nz ?_
      exact .same _
    have h := ifF hb17 h
    refine AW.one ?_
    refine obindE h fun oJ21 h hJ21 => ?_
    refine AW.join (S := Bool) (fun v20_0 => [(1, .ptr 0 6 0 0), (2, .ptr 1 2 0 0), (3, .ptr 2 2 0 0), (7, .d (.val (.int .i64 p0.op))), (26, .d (.val (.bool v20_0)))]) (fun v20_0 => [some ⟨6, [[.d (.val (.int .i64 p0.op)), .d (.val (.string p0.name)), .d (.val (.bool p0.num.neg)), .d (slD u32V p0.num.num), .d (slD u32V p0.num.den), .d (slD NodeA.enc p0.kids)]]⟩, some ⟨2, [[.d (.val (.bool false)), .d (.val (.slice none 0 0))]]⟩, some ⟨2, [[.d (.val (.bool false)), .d (.val (.slice none 0 0))]]⟩]) (fun x => x = oJ21) ?_ ?_
    · skip
      refine AW.op mixed ?_
      refine AW.kp [0, 1, 2] [1, 2, 3, 7, 26] ?_
      refine AW.ts (p0.op == (12 : Int)) (fun hb22 => ?_) (fun hb22 => ?_)
      · have h := ifT hb22 h
        refine AW.sk ?_
        exact JoinQ.ar (p0.op == (12 : Int)) [0, 1, 2] (Option.some.inj h)
      have h := ifF hb22 h
      refine AW.rg mixed ?_
      exact JoinQ.ar (p0.op == (39 : Int)) [0, 1, 2] (Option.some.inj h)
    rintro v20_0 rfl
    have h := hJ21
    try dsimp only [Out.fin] at h
    refine nz ?_
    refine AW.ts v20_0 (fun hb23 => ?_) (fun hb23 => ?_)
    · have h := ifT hb23 h
      refine AW.one ?_
      refine AW.reg mixed (by kernel_rfl) ?_
      apply obindE h; intro x24 hx25 h
      try simp only [go_sem, reduceEqDiff, reduceAdd, reduceSub, reduceMul, reduceLeDiff, reduceLT, Nat.reduceBEq, reduceIte, (idx_some hx25).1, (idx_some hx25).2]
      apply obindE h; intro r26 hx27 h
      have hc := nx (hself28 _ _ hx27)
      refine callK_pure hc (by simp only [go_sem, reduceEqDiff, reduceAdd, reduceSub, reduceMul, reduceLeDiff, reduceLT, Nat.reduceBEq, reduceIte]) ?_
      try simp only [go_sem, reduceEqDiff, reduceAdd, reduceSub, reduceMul, reduceLeDiff, reduceLT, Nat.reduceBEq, reduceIte, (idx_some hx25).1, (idx_some hx25).2]
      apply obindE h; intro r28 hx29 h
      have hc := nx (static_primes_ok (h := hx29))
      refine callK_pure hc (by simp only [go_sem, reduceEqDiff, reduceAdd, reduceSub, reduceMul, reduceLeDiff, reduceLT, Nat.reduceBEq, reduceIte]) ?_
      try simp only [go_sem, reduceEqDiff, reduceAdd, reduceSub, reduceMul, reduceLeDiff, reduceLT, Nat.reduceBEq, reduceIte, (idx_some hx25).1, (idx_some hx25).2]
      refine AW.ret ?_
      obtain ⟨_, h, ho⟩ := outM_some h
      rw [ho, Out.fin_out] at hJ2
      have h := h.trans hJ2
      obtain rfl := Option.some.inj h
      refine nz ?_
      exact .same _
    have h := ifF hb23 h
    refine AW.one ?_
    refine obindE h fun oJ31 h hJ31 => ?_
    refine AW.join (S := Bool) (fun v30_0 => [(1, .ptr 0 6 0 0), (2, .ptr 1 2 0 0), (3, .ptr 2 2 0 0), (7, .d (.val (.int .i64 p0.op))), (35, .d (.val (.bool v30_0)))]) (fun v30_0 => [some ⟨6, [[.d (.val (.int .i64 p0.op)), .d (.val (.string p0.name)), .d (.val (.bool p0.num.neg)), .d (slD u32V p0.num.num), .d (slD u32V p0.num.den), .d (slD NodeA.enc p0.kids)]]⟩, some ⟨2, [[.d (.val (.bool false)), .d (.val (.slice none 0 0))]]⟩, some ⟨2, [[.d (.val (.bool false)), .d (.val (.slice none 0 0))]]⟩]) (fun x => x = oJ31) ?_ ?_
    · skip
      refine AW.op mixed ?_
      refine AW.kp [0, 1, 2] [1, 2, 3, 7, 35] ?_
      refine AW.ts (p0.op == (33 : Int)) (fun hb32 => ?_) (fun hb32 => ?_)
      · have h := ifT hb32 h
        refine AW.sk ?_
        exact JoinQ.ar (p0.op == (33 : Int)) [0, 1, 2] (Option.some.inj h)
      have h := ifF hb32 h
      refine AW.rg mixed ?_
      exact JoinQ.ar (p0.op == (34 : Int)) [0, 1, 2] (Option.some.inj h)
    rintro v30_0 rfl
    have h := hJ31
    try dsimp only [Out.fin] at h
    refine nz ?_
    refine AW.ts v30_0 (fun hb33 => ?_) (fun hb33 => ?_)
    · have h := ifT hb33 h
      refine AW.one ?_
      refine AW.reg mixed (by kernel_rfl) ?_
      apply obindE h; intro x34 hx35 h
      try simp only [go_sem, reduceEqDiff, reduceAdd, reduceSub, reduceMul, reduceLeDiff, reduceLT, Nat.reduceBEq, reduceIte, (idx_some hx35).1, (idx_some hx35).2]
      apply obindE h; intro r36 hx37 h
      have hc := nx (hself28 _ _ hx37)
      refine pcallK_intro hc (by simp only [go_sem, reduceEqDiff, reduceAdd, reduceSub, reduceMul, reduceLeDiff, reduceLT, Nat.reduceBEq, reduceIte]) ?_
      try simp only [go_sem, reduceEqDiff, reduceAdd, reduceSub, reduceMul, reduceLeDiff, reduceLT, Nat.reduceBEq, reduceIte, (idx_some hx35).1, (idx_some hx35).2]
      apply obindE h; intro r38 hx39 h
      have hc := nx (static_one_ok (h := hx39))
      refine pcallK_intro hc (by simp only [go_sem, reduceEqDiff, reduceAdd, reduceSub, reduceMul, reduceLeDiff, reduceLT, Nat.reduceBEq, reduceIte]) ?_
      try simp only [go_sem, reduceEqDiff, reduceAdd, reduceSub, reduceMul, reduceLeDiff, reduceLT, Nat.reduceBEq, reduceIte, (idx_some hx35).1, (idx_some hx35).2]
      apply obindE h; intro r40 hx41 h
      have hc := nx (static_minus_ok (h := hx41))
      refine pcallK_intro hc (by simp only [go_sem, reduceEqDiff, reduceAdd, reduceSub, reduceMul, reduceLeDiff, reduceLT, Nat.reduceBEq, reduceIte]) ?_
      try simp only [go_sem, reduceEqDiff, reduceAdd, reduceSub, reduceMul, reduceLeDiff, reduceLT, Nat.reduceBEq, reduceIte, (idx_some hx35).1, (idx_some hx35).2]
      refine AW.ret ?_
      obtain ⟨_, h, ho⟩ := outM_some h
      rw [ho, Out.fin_out] at hJ2
      have h := h.trans hJ2
      obtain rfl := Option.some.inj h
      refine nz ?_
      exact .same _
    have h := ifF hb33 h
    refine AW.one ?_
    refine obindE h fun oJ43 h hJ43 => ?_
    refine AW.join (S := Bool) (fun v42_0 => [(1, .ptr 0 6 0 0), (2, .ptr 1 2 0 0), (3, .ptr 2 2 0 0), (7, .d (.val (.int .i64 p0.op))), (47, .d (.val (.bool v42_0)))]) (fun v42_0 => [some ⟨6, [[.d (.val (.int .i64 p0.op)), .d (.val (.string p0.name)), .d (.val (.bool p0.num.neg)), .d (slD u32V p0.num.num), .d (slD u32V p0.num.den), .d (slD NodeA.enc p0.kids)]]⟩, some ⟨2, [[.d (.val (.bool false)), .d (.val (.slice none 0 0))]]⟩, some ⟨2, [[.d (.val (.bool false)), .d (.val (.slice none 0 0))]]⟩]) (fun x => x = oJ43) ?_ ?_
    · skip
      refine AW.op mixed ?_
      refine AW.kp [0, 1, 2] [1, 2, 3, 7, 47] ?_
      refine AW.ts (p0.op == (35 : Int)) (fun hb44 => ?_) (fun hb44 => ?_)
      · have h := ifT hb44 h
        refine AW.sk ?_
        exact JoinQ.ar (p0.op == (35 : Int)) [0, 1, 2] (Option.some.inj h)
      have h := ifF hb44 h
      refine AW.op mixed ?_
      refine AW.kp [0, 1, 2] [1, 2, 3, 7, 47] ?_
      refine AW.ts (p0.op == (36 : Int)) (fun hb45 => ?_) (fun hb45 => ?_)
      · have h := ifT hb45 h
        refine AW.sk ?_
        exact JoinQ.ar (p0.op == (36 : Int)) [0, 1, 2] (Option.some.inj h)
      have h := ifF hb45 h
      refine AW.rg mixed ?_
      exact JoinQ.ar (p0.op == (57 : Int)) [0, 1, 2] (Option.some.inj h)
    rintro v42_0 rfl
    have h := hJ43
    try dsimp only [Out.fin] at h
    refine nz ?_
    refine AW.ts v42_0 (fun hb46 => ?_) (fun hb46 => ?_)
    · have h := ifT hb46 h
      refine AW.one ?_
      refine AW.reg mixed (by kernel_rfl) ?_
      apply obindE h; intro x47 hx48 h
      try simp only [go_sem, reduceEqDiff, reduceAdd, reduceSub, reduceMul, reduceLeDiff, reduceLT, Nat.reduceBEq, reduceIte, (idx_some hx48).1, (idx_some hx48).2]
      apply obindE h; intro r49 hx50 h
      have hc := nx (hself28 _ _ hx50)
      refine pcallK_intro hc (by simp only [go_sem, reduceEqDiff, reduceAdd, reduceSub, reduceMul, reduceLeDiff, reduceLT, Nat.reduceBEq, reduceIte]) ?_
      apply obindE h; intro x51 hx52 h
      try simp only [go_sem, reduceEqDiff, reduceAdd, reduceSub, reduceMul, reduceLeDiff, reduceLT, Nat.reduceBEq, reduceIte, (idx_some hx48).1, (idx_some hx48).2, (idx_some hx52).1, (idx_some hx52).2]
      apply obindE h; intro r53 hx54 h
      have hc := nx (hself28 _ _ hx54)
      refine pcallK_intro hc (by simp only [go_sem, reduceEqDiff, reduceAdd, reduceSub, reduceMul, reduceLeDiff, reduceLT, Nat.reduceBEq, reduceIte]) ?_
      try simp only [go_sem, reduceEqDiff, reduceAdd, reduceSub, reduceMul, reduceLeDiff, reduceLT, Nat.reduceBEq, reduceIte, (idx_some hx48).1, (idx_some hx48).2, (idx_some hx52).1, (idx_some hx52).2]
      apply obindE h; intro r55 hx56 h
      have hc := nx (static_MustOf_ok (h := hx56))
      refine pcallK_intro hc (by simp only [go_sem, reduceEqDiff, reduceAdd, reduceSub, reduceMul, reduceLeDiff, reduceLT, Nat.reduceBEq, reduceIte]) ?_
      try simp only [go_sem, reduceEqDiff, reduceAdd, reduceSub, reduceMul, reduceLeDiff, reduceLT, Nat.reduceBEq, reduceIte, (idx_some hx48).1, (idx_some hx48).2, (idx_some hx52).1, (idx_some hx52).2]
      apply obindE h; intro r57 hx58 h
      have hc := nx (static_minus_ok (h := hx58))
      refine pcallK_intro hc (by simp only [go_sem, reduceEqDiff, reduceAdd, reduceSub, reduceMul, reduceLeDiff, reduceLT, Nat.reduceBEq, reduceIte]) ?_
      try simp only [go_sem, reduceEqDiff, reduceAdd, reduceSub, reduceMul, reduceLeDiff, reduceLT, Nat.reduceBEq, reduceIte, (idx_some hx48).1, (idx_some hx48).2, (idx_some hx52).1, (idx_some hx52).2]
      apply obindE h; intro r59 hx60 h
      have hc := nx (static_union_ok (h := hx60))
      refine pcallK_intro hc (by simp only [go_sem, reduceEqDiff, reduceAdd, reduceSub, reduceMul, reduceLeDiff, reduceLT, Nat.reduceBEq, reduceIte]) ?_
      try simp only [go_sem, reduceEqDiff, reduceAdd, reduceSub, reduceMul, reduceLeDiff, reduceLT, Nat.reduceBEq, reduceIte, (idx_some hx48).1, (idx_some hx48).2, (idx_some hx52).1, (idx_some hx52).2]
      refine AW.ret ?_
      obtain ⟨_, h, ho⟩ := outM_some h
      rw [ho, Out.fin_out] at hJ2
      have h := h.trans hJ2
      obtain rfl := Option.some.inj h
      refine nz ?_
      exact .same _
    have h := ifF hb46 h
    refine AW.op mixed ?_
    refine AW.kp [0, 1, 2] [1, 2, 3, 7, 68] ?_
    refine AW.ts (p0.op == (52 : Int)) (fun hb61 => ?_) (fun hb61 => ?_)
    · have h := ifT hb61 h
      refine AW.op mixed ?_
      refine AW.ret ?_
      obtain ⟨_, h, ho⟩ := outM_some h
      rw [ho, Out.fin_out] at hJ2
      have h := h.trans hJ2
      obtain rfl := Option.some.inj h
      refine nz ?_
      exact .aggL ⟨.same _, .nil, trivial⟩
    have h := ifF hb61 h
    refine AW.op mixed ?_
    refine AW.kp [0, 1, 2] [1, 2, 3, 71] ?_
    refine AW.ts (p0.op == (55 : Int)) (fun hb62 => ?_) (fun hb62 => ?_)
    · have h := ifT hb62 h
      refine AW.rg mixed ?_
      apply obindE h; intro r63 hx64 h
      have hc := nx (static_one_ok (h := hx64))
      refine callP hc ?_
      exact JoinQ.ar (r63.all, r63.list) [0, 1, 2] (Option.some.inj h).symm
    have h := ifF hb62 h
    refine AW.sk ?_
    refine JoinQ.mkS (false, []) [0, 1, 2] [] [] [(2, ⟨2, [[.d (.val (.bool false)), .d (slD strV [])]]⟩)] (Option.some.inj h).symm (by simp only [go_sem, reduceEqDiff, reduceAdd, reduceSub, reduceMul, reduceLeDiff, reduceLT, Nat.reduceBEq, reduceIte, sealL_cons, sealL_nil]) (by simp only [go_sem, reduceEqDiff, reduceAdd, reduceSub, reduceMul, reduceLeDiff, reduceLT, Nat.reduceBEq, reduceIte, sealH_cons, sealH_nil]; exact ⟨⟨.same _, .nil, trivial⟩, trivial⟩) (by simp only [go_sem, reduceEqDiff, reduceAdd, reduceSub, reduceMul, reduceLeDiff, reduceLT, Nat.reduceBEq, reduceIte])
  rintro ⟨v1_0, v1_1⟩ rfl
  have h := hJ2
  try dsimp only [Out.fin] at h
  refine nz ?_
  refine AW.one ?_
  refine AW.op mixed ?_
  refine AW.kp [1, 2] [2, 3, 77, 78, 79] ?_
  refine obindE h fun oJ68 h hJ68 => ?_
  refine AW.join (S := Api_NamesA) (fun e66_0 => [(2, .ptr 0 2 0 0), (3, .ptr 1 2 0 0)]) (fun e66_0 => [some ⟨2, [[.d (.val (.bool false)), .d (.val (.slice none 0 0))]]⟩, some ⟨2, [[.d (.val (.bool e66_0.all)), .d (slD strV e66_0.list)]]⟩]) (fun x => x = oJ68) ?_ ?_
  · refine AW.block ?_
    refine AW.iter (S := Int × Api_NamesA) (fun (i65_0, i65_1) => [(2, .ptr 0 2 0 0), (3, .ptr 1 2 0 0), (77, .d (slD NodeA.enc p0.kids)), (78, .d (.val (.int .i64 (p0.kids.length : Int)))), (79, .d (.val (.int .i64 i65_0)))]) (fun (i65_0, i65_1) => [some ⟨2, [[.d (.val (.bool false)), .d (.val (.slice none 0 0))]]⟩, some ⟨2, [[.d (.val (.bool i65_1.all)), .d (slD strV i65_1.list)]]⟩]) [0, 1] h (by simp only [go_sem, reduceEqDiff, reduceAdd, reduceSub, reduceMul, reduceLeDiff, reduceLT, Nat.reduceBEq, reduceIte]) ?_
    rintro again ⟨i65_0, i65_1⟩ h
    try dsimp only at h
    refine AW.op mixed ?_
    refine AW.kp [0, 1] [2, 3, 77, 78, 79, 80] ?_
    refine AW.one ?_
    refine AW.ts (decide (i65_0 < (p0.kids.length : Int))) (fun hb69 => ?_) (fun hb69 => ?_)
    · have h := ifT hb69 h
      refine AW.sk ?_
      refine AW.kp [0, 1] [2, 3, 77, 78, 79] ?_
      refine AW.one ?_
      refine AW.block ?_
      refine AW.one ?_
      refine AW.reg mixed (by kernel_rfl) ?_
      apply obindE h; intro x70 hx71 h
      try simp only [go_sem, reduceEqDiff, reduceAdd, reduceSub, reduceMul, reduceLeDiff, reduceLT, Nat.reduceBEq, reduceIte, (idx_some hx71).1, (idx_some hx71).2]
      refine AW.cut [0, 1, 4] [(2, .ptr 0 2 0 0), (3, .ptr 1 2 0 0), (5, .ptr 2 6 0 0), (77, .d (slD NodeA.enc p0.kids)), (78, .d (.val (.int .i64 (p0.kids.length : Int)))), (79, .d (.val (.int .i64 i65_0)))] [some ⟨2, [[.d (.val (.bool false)), .d (.val (.slice none 0 0))]]⟩, some ⟨2, [[.d (.val (.bool i65_1.all)), .d (slD strV i65_1.list)]]⟩, some ⟨6, [[.d (.val (.int .i64 x70.op)), .d (.val (.string x70.name)), .d (.val (.bool x70.num.neg)), .d (slD u32V x70.num.num), .d (slD u32V x70.num.den), .d (slD NodeA.enc x70.kids)]]⟩] (by simp only [go_sem, reduceEqDiff, reduceAdd, reduceSub, reduceMul, reduceLeDiff, reduceLT, Nat.reduceBEq, reduceIte, (idx_some hx71).1, (idx_some hx71).2]) ?_
      refine AW.rg mixed ?_
      apply obindE h; intro r72 hx73 h
      have hc := nx (hself28 _ _ hx73)
      refine callD hc ?_
      apply obindE h; intro r74 hx75 h
      have hc := nx (static_union_ok (h := hx75))
      refine callD hc ?_
      refine AW.kp [0, 1] [2, 3, 77, 78, 79] ?_
      refine AW.rg mixed ?_
      exact NextQ.ar (IntKind.wrap .i64 (i65_0 + (1 : Int)), r74) [0, 1] h
    have h := ifF hb69 h
    refine AW.ex ?_
    exact JoinQ.ar i65_1 [0, 1] (Option.some.inj h)
  rintro e66_0 rfl
  have h := hJ68
  try dsimp only [Out.fin] at h
  refine nz ?_
  refine AW.kp [0, 1] [2, 3] ?_
  refine AW.op mixed ?_
  refine AW.ret ?_
  obtain rfl := Option.some.inj h
  refine nz ?_
  exact .same _
def static_FreeOf (K : Nat) (p0 : NodeA) : Option Api_NamesA := iter K (fun self q => static_FreeOf_body K self q) p0
theorem key_static_FreeOf {K : Nat} (k : Nat) : (∀ (q : NodeA) (r : Api_NamesA), iter k (fun self q => static_FreeOf_body K self q) q = some r → Cn Tryz.prog 28 [aggV q.enc] (aggV r.enc)) := by
  induction k with
  | zero => exact fun q r h => by cases h
  | succ k ih => exact fun q r h => static_FreeOf_step K _ ih q r h
theorem static_FreeOf_ok {K : Nat} {p0 : NodeA} {r : Api_NamesA} (h : static_FreeOf K p0 = some r) : Cn Tryz.prog 28 [aggV p0.enc] (aggV r.enc) := (key_static_FreeOf K) p0 r h
/-! ### sort.SearchStrings$1 -/
def sort_SearchStrings_1 (K : Nat) (p0 : Int) (p1 : List ByteArray) (p2 : ByteArray) : Option Bool := (idx p1 p0).bind fun x1 => 
  some (!Op.bytesLess x1.toList p2.toList)
set_option maxHeartbeats 4000000 in
theorem sort_SearchStrings_1_ok {K : Nat} {p0 : Int} {p1 : List ByteArray} {p2 : ByteArray} {r : Bool} (h : sort_SearchStrings_1 K p0 p1 p2 = some r) : Cn Tryz.prog 100 [.d (.val (.int .i64 p0)), .iptr [slD strV p1], .iptr [.val (.string p2)]] (.d (.val (.bool r))) := by
  refine Cn.ofA mixed Tryz.func100 rfl Tryz.call100 Tryz.ntmps100 Tryz.results100 (by simp) (by simp only [go_sem, reduceEqDiff, reduceAdd, reduceSub, reduceMul, reduceLeDiff, reduceLT, Nat.reduceBEq, reduceIte]) fun hfit => ?_
  unfold sort_SearchStrings_1 at h
  refine AW.kp [] [0, 1, 2] ?_
  refine AW.op mixed ?_
  refine AW.kp [] [0, 1, 2] ?_
  refine AW.one ?_
  refine AW.reg mixed (by kernel_rfl) ?_
  apply obindE h; intro x1 hx2 h
  try simp only [go_sem, reduceEqDiff, reduceAdd, reduceSub, reduceMul, reduceLeDiff, reduceLT, Nat.reduceBEq, reduceIte, (idx_some hx2).1, (idx_some hx2).2]
  refine AW.ret ?_
  obtain rfl := Option.some.inj h
  refine nz ?_
  exact .same _
/-! ### sort.Search -/
def sort_Search_sort_SearchStrings_1 (K : Nat) (p0 : Int) (p1 : List ByteArray) (p2 : ByteArray) : Option Int := ((iter (S := Int × Int) (R := Int) K (fun again (i1_0, i1_1) => 
    if (decide (i1_0 < i1_1)) then
      (must (decide ((0 : Int) ≤ (1 : Int)))).bind fun _ => 
      (sort_SearchStrings_1 K (IntKind.wrap .i64 (bShr .u64 (IntKind.wrap .u64 (IntKind.wrap .i64 (i1_0 + i1_1))) (1 : Int))) p1 p2).bind fun r7 => 
      if (!r7) then
        again (IntKind.wrap .i64 ((IntKind.wrap .i64 (bShr .u64 (IntKind.wrap .u64 (IntKind.wrap .i64 (i1_0 + i1_1))) (1 : Int))) + (1 : Int)), i1_1)
      else
        again (i1_0, IntKind.wrap .i64 (bShr .u64 (IntKind.wrap .u64 (IntKind.wrap .i64 (i1_0 + i1_1))) (1 : Int)))
    else
      some i1_0) ((0 : Int), p0)) : Option Int).bind (fun e2_0 => 
  some e2_0)
set_option maxHeartbeats 4000000 in
theorem sort_Search_sort_SearchStrings_1_ok {K : Nat} {p0 : Int} {p1 : List ByteArray} {p2 : ByteArray} {r : Int} (h : sort_Search_sort_SearchStrings_1 K p0 p1 p2 = some r) : Cn Tryz.prog 99 [.d (.val (.int .i64 p0)), .fn 100 [.iptr [slD strV p1], .iptr [.val (.string p2)]]] (.d (.val (.int .i64 r))) := by
  refine Cn.ofA mixed Tryz.func99 rfl Tryz.call99 Tryz.ntmps99 Tryz.results99 (by simp) (by simp only [go_sem, reduceEqDiff, reduceAdd, reduceSub, reduceMul, reduceLeDiff, reduceLT, Nat.reduceBEq, reduceIte]) fun hfit => ?_
  unfold sort_Search_sort_SearchStrings_1 at h
  refine AW.kp [] [0, 1] ?_
  refine AW.op mixed ?_
  refine AW.kp [] [0, 1] ?_
  refine AW.op mixed ?_
  refine AW.kp [] [1, 5, 6] ?_
  refine AW.one ?_
  refine obindE h fun oJ4 h hJ4 => ?_
  refine AW.join (S := Int) (fun e2_0 => [(5, .d (.val (.int .i64 e2_0)))]) (fun e2_0 => []) (fun x => x = oJ4) ?_ ?_
  · refine AW.block ?_
    refine AW.iter (S := Int × Int) (fun (i1_0, i1_1) => [(1, .fn 100 [.iptr [slD strV p1], .iptr [.val (.string p2)]]), (5, .d (.val (.int .i64 i1_0))), (6, .d (.val (.int .i64 i1_1)))]) (fun (i1_0, i1_1) => []) [] h (by simp only [go_sem, reduceEqDiff, reduceAdd, reduceSub, reduceMul, reduceLeDiff, reduceLT, Nat.reduceBEq, reduceIte]) ?_
    rintro again ⟨i1_0, i1_1⟩ h
    try dsimp only at h
    refine AW.one ?_
    refine AW.op mixed ?_
    refine AW.kp [] [1, 5, 6, 11] ?_
    refine AW.ts (decide (i1_0 < i1_1)) (fun hb5 => ?_) (fun hb5 => ?_)
    · have h := ifT hb5 h
      refine AW.sk ?_
      refine AW.kp [] [1, 5, 6] ?_
      refine AW.block ?_
      refine AW.one ?_
      refine AW.reg mixed (by kernel_rfl) ?_
      apply obindE h; intro _ hx6 h
      try simp only [go_sem, reduceEqDiff, reduceAdd, reduceSub, reduceMul, reduceLeDiff, reduceLT, Nat.reduceBEq, reduceIte, cv_int (P := Tryz.prog) Tryz.underlying3 Tryz.underlying106, bop_shrO (P := Tryz.prog) hx6, cv_int (P := Tryz.prog) Tryz.underlying106 Tryz.underlying3]
      refine AW.cut [] [(1, .fn 100 [.iptr [slD strV p1], .iptr [.val (.string p2)]]), (5, .d (.val (.int .i64 i1_0))), (6, .d (.val (.int .i64 i1_1))), (7, .d (.val (.int .i64 (IntKind.wrap .i64 (bShr .u64 (IntKind.wrap .u64 (IntKind.wrap .i64 (i1_0 + i1_1))) (1 : Int))))))] [] (by simp only [go_sem, reduceEqDiff, reduceAdd, reduceSub, reduceMul, reduceLeDiff, reduceLT, Nat.reduceBEq, reduceIte, cv_int (P := Tryz.prog) Tryz.underlying3 Tryz.underlying106, bop_shrO (P := Tryz.prog) hx6, cv_int (P := Tryz.prog) Tryz.underlying106 Tryz.underlying3]) ?_
      refine AW.op mixed ?_
      apply obindE h; intro r7 hx8 h
      have hc := nx (sort_SearchStrings_1_ok (h := hx8))
      refine callP hc ?_
      refine AW.kp [] [1, 5, 6, 7, 21] ?_
      refine AW.ts (!r7) (fun hb9 => ?_) (fun hb9 => ?_)
      · have h := ifT hb9 h
        refine AW.rg mixed ?_
        exact NextQ.ar (IntKind.wrap .i64 ((IntKind.wrap .i64 (bShr .u64 (IntKind.wrap .u64 (IntKind.wrap .i64 (i1_0 + i1_1))) (1 : Int))) + (1 : Int)), i1_1) [] h
      have h := ifF hb9 h
      refine AW.rg mixed ?_
      exact NextQ.ar (i1_0, IntKind.wrap .i64 (bShr .u64 (IntKind.wrap .u64 (IntKind.wrap .i64 (i1_0 + i1_1))) (1 : Int))) [] h
    have h := ifF hb5 h
    refine AW.ex ?_
    exact JoinQ.ar i1_0 [] (Option.some.inj h)
  rintro e2_0 rfl
  have h := hJ4
  try dsimp only [Out.fin] at h
  refine nz ?_
  refine AW.kp [] [5] ?_
  refine AW.op mixed ?_
  refine AW.ret ?_
  obtain rfl := Option.some.inj h
  refine nz ?_
  exact .same _
/-! ### sort.SearchStrings -/
def sort_SearchStrings (K : Nat) (p0 : List ByteArray) (p1 : ByteArray) : Option Int := (sort_Search_sort_SearchStrings_1 K (p0.length : Int) p0 p1).bind fun r1 => 
  some r1
set_option maxHeartbeats 4000000 in
theorem sort_SearchStrings_ok {K : Nat} {p0 : List ByteArray} {p1 : ByteArray} {r : Int} (h : sort_SearchStrings K p0 p1 = some r) : Cn Tryz.prog 68 [.d (slD strV p0), .d (.val (.string p1))] (.d (.val (.int .i64 r))) := by
  refine Cn.ofA mixed Tryz.func68 rfl Tryz.call68 Tryz.ntmps68 Tryz.results68 (by simp) (by simp only [go_sem, reduceEqDiff, reduceAdd, reduceSub, reduceMul, reduceLeDiff, reduceLT, Nat.reduceBEq, reduceIte]) fun hfit => ?_
  unfold sort_SearchStrings at h
  refine AW.kp [] [0, 1] ?_
  refine AW.op mixed ?_
  refine AW.kp [0, 1] [2, 3] ?_
  refine AW.op mixed ?_
  apply obindE h; intro r1 hx2 h
  have hc := nx (sort_Search_sort_SearchStrings_1_ok (h := hx2))
  refine callK_look hc ⟨.same _, .fnL ⟨sealPtr (by simp only [go_sem, reduceEqDiff, reduceAdd, reduceSub, reduceMul, reduceLeDiff, reduceLT, Nat.reduceBEq, reduceIte]), sealPtr (by simp only [go_sem, reduceEqDiff, reduceAdd, reduceSub, reduceMul, reduceLeDiff, reduceLT, Nat.reduceBEq, reduceIte]), trivial⟩, trivial⟩ (by simp only [go_sem, reduceEqDiff, reduceAdd, reduceSub, reduceMul, reduceLeDiff, reduceLT, Nat.reduceBEq, reduceIte]) (by simp [V.flat, V.flatL]) ?_
  try simp only [go_sem, reduceEqDiff, reduceAdd, reduceSub, reduceMul, reduceLeDiff, reduceLT, Nat.reduceBEq, reduceIte]
  refine AW.ret ?_
  obtain rfl := Option.some.inj h
  refine nz ?_
  exact .same _
/-! ### isochrone/static.Has -/
def static_Has (K : Nat) (p0 : Api_NamesA) (p1 : ByteArray) : Option Bool := (sort_SearchStrings K p0.list p1).bind fun r1 => 
  if (decide (r1 < (p0.list.length : Int))) then
    (idx p0.list r1).bind fun x4 => 
    some (!((x4.toList == p1.toList) == p0.all))
  else
    some (!(false == p0.all))
set_option maxHeartbeats 4000000 in
theorem static_Has_ok {K : Nat} {p0 : Api_NamesA} {p1 : ByteArray} {r : Bool} (h : static_Has K p0 p1 = some r) : Cn Tryz.prog 30 [aggV p0.enc, .d (.val (.string p1))] (.d (.val (.bool r))) := by
  refine Cn.ofA mixed Tryz.func30 rfl Tryz.call30 Tryz.ntmps30 Tryz.results30 (by simp) (by simp only [go_sem, reduceEqDiff, reduceAdd, reduceSub, reduceMul, reduceLeDiff, reduceLT, Nat.reduceBEq, reduceIte]) fun hfit => ?_
  unfold static_Has at h
  refine AW.kp [] [0, 1] ?_
  refine AW.op mixed ?_
  refine AW.kp [0] [1, 2] ?_
  refine AW.op mixed ?_
  apply obindE h; intro r1 hx2 h
  have hc := nx (sort_SearchStrings_ok (h := hx2))
  refine callP hc ?_
  refine AW.kp [0] [1, 2, 5] ?_
  refine AW.op mixed ?_
  refine splitK_intro (fun hb3 => ?_) (fun hb3 => ?_)
  · have h := ifT hb3 h
    apply obindE h; intro x4 hx5 h
    try simp only [go_sem, reduceEqDiff, reduceAdd, reduceSub, reduceMul, reduceLeDiff, reduceLT, Nat.reduceBEq, reduceIte, hb3, (idx_some hx5).1, (idx_some hx5).2]
    refine AW.ret ?_
    obtain rfl := Option.some.inj h
    refine nz ?_
    exact .same _
  have h := ifF hb3 h
  try simp only [go_sem, reduceEqDiff, reduceAdd, reduceSub, reduceMul, reduceLeDiff, reduceLT, Nat.reduceBEq, reduceIte, hb3]
  refine AW.ret ?_
  obtain rfl := Option.some.inj h
  refine nz ?_
  exact .same _
/-! ### isochrone/tree.root -/
def tree_root (K : Nat) (p0 : NodeA) : Option Int := (tree_Sort K p0.op).bind fun r1 => 
  ((
    ((
      if (r1 == (0 : Int)) then
        some true
      else
        some (r1 == (4 : Int))) : Option Bool).bind (fun v5_0 => 
    if v5_0 then
      outM (
        some (80 : Int))
    else
      some (.go ()))) : Option (Out Unit _)).bind (Out.fin fun _ => 
  (tree_Check K p0 r1).bind fun r9 => 
  some r9)
set_option maxHeartbeats 4000000 in
theorem tree_root_ok {K : Nat} {p0 : NodeA} {r : Int} (h : tree_root K p0 = some r) : Cn Tryz.prog 56 [aggV p0.enc] (.d (.val (.int .i64 r))) := by
  refine Cn.ofA mixed Tryz.func56 rfl Tryz.call56 Tryz.ntmps56 Tryz.results56 (by simp) (by simp only [go_sem, reduceEqDiff, reduceAdd, reduceSub, reduceMul, reduceLeDiff, reduceLT, Nat.reduceBEq, reduceIte]) fun hfit => ?_
  unfold tree_root at h
  refine AW.kp [] [0] ?_
  refine AW.op mixed ?_
  refine AW.kp [0] [1] ?_
  refine AW.op mixed ?_
  apply obindE h; intro r1 hx2 h
  have hc := nx (tree_Sort_ok (h := hx2))
  refine callP hc ?_
  refine AW.kp [0] [1, 3] ?_
  refine AW.one ?_
  refine obindE h fun oJ4 h hJ4 => ?_
  refine AW.join (S := Unit) (fun _ => [(1, .ptr 0 6 0 0), (3, .d (.val (.int .i64 r1)))]) (fun _ => [some ⟨6, [[.d (.val (.int .i64 p0.op)), .d (.val (.string p0.name)), .d (.val (.bool p0.num.neg)), .d (slD u32V p0.num.num), .d (slD u32V p0.num.den), .d (slD NodeA.enc p0.kids)]]⟩]) (fun x => oJ4 = .go x) ?_ ?_
  · skip
    refine AW.one ?_
    refine obindE h fun oJ6 h hJ6 => ?_
    refine AW.join (S := Bool) (fun v5_0 => [(1, .ptr 0 6 0 0), (3, .d (.val (.int .i64 r1))), (12, .d (.val (.bool v5_0)))]) (fun v5_0 => [some ⟨6, [[.d (.val (.int .i64 p0.op)), .d (.val (.string p0.name)), .d (.val (.bool p0.num.neg)), .d (slD u32V p0.num.num), .d (slD u32V p0.num.den), .d (slD NodeA.enc p0.kids)]]⟩]) (fun x => x = oJ6) ?_ ?_
    · skip
      refine AW.rg mixed ?_
      refine splitK_intro (fun hb7 => ?_) (fun hb7 => ?_)
      · have h := ifT hb7 h
        try simp only [go_sem, reduceEqDiff, reduceAdd, reduceSub, reduceMul, reduceLeDiff, reduceLT, Nat.reduceBEq, reduceIte, hb7]
        refine JoinQ.mk true [0] (Option.some.inj h) (by simp only [go_sem, reduceEqDiff, reduceAdd, reduceSub, reduceMul, reduceLeDiff, reduceLT, Nat.reduceBEq, reduceIte, hb7])
      have h := ifF hb7 h
      try simp only [go_sem, reduceEqDiff, reduceAdd, reduceSub, reduceMul, reduceLeDiff, reduceLT, Nat.reduceBEq, reduceIte, hb7]
      refine JoinQ.mk (r1 == (4 : Int)) [0] (Option.some.inj h) (by simp only [go_sem, reduceEqDiff, reduceAdd, reduceSub, reduceMul, reduceLeDiff, reduceLT, Nat.reduceBEq, reduceIte, hb7])
    rintro v5_0 rfl
    have h := hJ6
    try dsimp only [Out.fin] at h
    refine nz ?_
    refine AW.ts v5_0 (fun hb8 => ?_) (fun hb8 => ?_)
    · have h := ifT hb8 h
      refine AW.op mixed ?_
      refine AW.ret ?_
      obtain ⟨_, h, ho⟩ := outM_some h
      rw [ho, Out.fin_out] at hJ4
      have h := h.trans hJ4
      obtain rfl := Option.some.inj h
      refine nz ?_
      exact .same _
    have h := ifF hb8 h
    refine AW.sk ?_
    exact JoinQ.ar () [0] (Option.some.inj h).symm
  rintro ⟨⟩ rfl
  have h := hJ4
  try dsimp only [Out.fin] at h
  refine nz ?_
  refine AW.op mixed ?_
  apply obindE h; intro r9 hx10 h
  have hc := nx (tree_Check_ok (h := hx10))
  refine callP hc ?_
  refine AW.ret ?_
  obtain rfl := Option.some.inj h
  refine nz ?_
  exact .same _
/-! ### isochrone/tree.step -/
def tree_step (K : Nat) (p0 : NodeA) (p1 : List Int) : Option (NodeA × Bool) := ((iter (S := Int × NodeA) (R := Out NodeA _) K (fun again (i1_0, i1_1) => 
    if (decide (i1_0 < (p1.length : Int))) then
      ((
        (idx p1 i1_0).bind fun x8 => 
        ((
          ((
            if (decide (x8 < (0 : Int))) then
              some true
            else
              some (decide ((i1_1.kids.length : Int) ≤ x8))) : Option Bool).bind (fun v12_0 => 
          if v12_0 then
            outM (
              outM (
                outM (
                  some ((NodeA.mk (0 : Int) (⟨#[]⟩ : ByteArray) (RatA.mk false [] []) []), false))))
          else
            some (.go ()))) : Option (Out Unit _)).bind (Out.fin fun _ => 
        (idx i1_1.kids x8).bind fun x16 => 
        some (.go x16))) : Option (Out NodeA _)).bind (Out.fin fun v6_0 => 
      again (IntKind.wrap .i64 (i1_0 + (1 : Int)), v6_0))
    else
      some (.go i1_1)) ((0 : Int), p0)) : Option (Out NodeA _)).bind (Out.fin fun e2_0 => 
  some (e2_0, true))
set_option maxHeartbeats 4000000 in
theorem tree_step_ok {K : Nat} {p0 : NodeA} {p1 : List Int} {r : NodeA × Bool} (h : tree_step K p0 p1 = some r) : Cn Tryz.prog 57 [aggV p0.enc, .d (slD i64V p1)] (.tup [aggV r.1.enc, .d (.val (.bool r.2))]) := by
  refine Cn.ofA mixed Tryz.func57 rfl Tryz.call57 Tryz.ntmps57 Tryz.results57 (by simp) (by simp only [go_sem, reduceEqDiff, reduceAdd, reduceSub, reduceMul, reduceLeDiff, reduceLT, Nat.reduceBEq, reduceIte]) fun hfit => ?_
  unfold tree_step at h
  refine AW.kp [] [0, 1] ?_
  refine AW.op mixed ?_
  refine AW.kp [0, 1] [1, 2, 4] ?_
  refine AW.one ?_
  refine AW.op mixed ?_
  refine AW.kp [0, 1] [2, 4, 8, 9, 10] ?_
  refine obindE h fun oJ4 h hJ4 => ?_
  refine AW.join (S := NodeA) (fun e2_0 => [(2, .ptr 0 6 0 0), (4, .ptr 1 6 0 0)]) (fun e2_0 => [some ⟨6, [[.d (.val (.int .i64 e2_0.op)), .d (.val (.string e2_0.name)), .d (.val (.bool e2_0.num.neg)), .d (slD u32V e2_0.num.num), .d (slD u32V e2_0.num.den), .d (slD NodeA.enc e2_0.kids)]]⟩, some ⟨6, [[.d (.val (.int .i64 (0 : Int))), .d (.val (.string (⟨#[]⟩ : ByteArray))), .d (.val (.bool false)), .d (.val (.slice none 0 0)), .d (.val (.slice none 0 0)), .d (.val (.slice none 0 0))]]⟩]) (fun x => oJ4 = .go x) ?_ ?_
  · refine AW.block ?_
    refine AW.iter (S := Int × NodeA) (fun (i1_0, i1_1) => [(2, .ptr 0 6 0 0), (4, .ptr 1 6 0 0), (8, .d (slD i64V p1)), (9, .d (.val (.int .i64 (p1.length : Int)))), (10, .d (.val (.int .i64 i1_0)))]) (fun (i1_0, i1_1) => [some ⟨6, [[.d (.val (.int .i64 i1_1.op)), .d (.val (.string i1_1.name)), .d (.val (.bool i1_1.num.neg)), .d (slD u32V i1_1.num.num), .d (slD u32V i1_1.num.den), .d (slD NodeA.enc i1_1.kids)]]⟩, some ⟨6, [[.d (.val (.int .i64 (0 : Int))), .d (.val (.string (⟨#[]⟩ : ByteArray))), .d (.val (.bool false)), .d (.val (.slice none 0 0)), .d (.val (.slice none 0 0)), .d (.val (.slice none 0 0))]]⟩]) [0, 1] h (by simp only [go_sem, reduceEqDiff, reduceAdd, reduceSub, reduceMul, reduceLeDiff, reduceLT, Nat.reduceBEq, reduceIte]) ?_
    rintro again ⟨i1_0, i1_1⟩ h
    try dsimp only at h
    refine AW.op mixed ?_
    refine AW.kp [0, 1] [2, 4, 8, 9, 10, 11] ?_
    refine AW.one ?_
    refine AW.ts (decide (i1_0 < (p1.length : Int))) (fun hb5 => ?_) (fun hb5 => ?_)
    · have h := ifT hb5 h
      refine AW.sk ?_
      refine AW.kp [0, 1] [2, 4, 8, 9, 10] ?_
      refine AW.one ?_
      refine obindE h fun oJ7 h hJ7 => ?_
      refine AW.join (S := NodeA) (fun v6_0 => [(2, .ptr 0 6 0 0), (4, .ptr 1 6 0 0), (8, .d (slD i64V p1)), (9, .d (.val (.int .i64 (p1.length : Int)))), (10, .d (.val (.int .i64 i1_0)))]) (fun v6_0 => [some ⟨6, [[.d (.val (.int .i64 v6_0.op)), .d (.val (.string v6_0.name)), .d (.val (.bool v6_0.num.neg)), .d (slD u32V v6_0.num.num), .d (slD u32V v6_0.num.den), .d (slD NodeA.enc v6_0.kids)]]⟩, some ⟨6, [[.d (.val (.int .i64 (0 : Int))), .d (.val (.string (⟨#[]⟩ : ByteArray))), .d (.val (.bool false)), .d (.val (.slice none 0 0)), .d (.val (.slice none 0 0)), .d (.val (.slice none 0 0))]]⟩]) (fun x => oJ7 = .go x) ?_ ?_
      · skip
        refine AW.block ?_
        refine AW.one ?_
        refine AW.reg mixed (by kernel_rfl) ?_
        apply obindE h; intro x8 hx9 h
        try simp only [go_sem, reduceEqDiff, reduceAdd, reduceSub, reduceMul, reduceLeDiff, reduceLT, Nat.reduceBEq, reduceIte, (idx_some hx9).1, (idx_some hx9).2]
        refine AW.cut [0, 1] [(2, .ptr 0 6 0 0), (4, .ptr 1 6 0 0), (7, .d (.val (.int .i64 x8))), (8, .d (slD i64V p1)), (9, .d (.val (.int .i64 (p1.length : Int)))), (10, .d (.val (.int .i64 i1_0)))] [some ⟨6, [[.d (.val (.int .i64 i1_1.op)), .d (.val (.string i1_1.name)), .d (.val (.bool i1_1.num.neg)), .d (slD u32V i1_1.num.num), .d (slD u32V i1_1.num.den), .d (slD NodeA.enc i1_1.kids)]]⟩, some ⟨6, [[.d (.val (.int .i64 (0 : Int))), .d (.val (.string (⟨#[]⟩ : ByteArray))), .d (.val (.bool false)), .d (.val (.slice none 0 0)), .d (.val (.slice none 0 0)), .d (.val (.slice none 0 0))]]⟩] (by simp only [go_sem, reduceEqDiff, reduceAdd, reduceSub, reduceMul, reduceLeDiff, reduceLT, Nat.reduceBEq, reduceIte, (idx_some hx9).1, (idx_some hx9).2]) ?_
        refine AW.one ?_
        refine obindE h fun oJ11 h hJ11 => ?_
        refine AW.join (S := Unit) (fun _ => [(2, .ptr 0 6 0 0), (4, .ptr 1 6 0 0), (7, .d (.val (.int .i64 x8))), (8, .d (slD i64V p1)), (9, .d (.val (.int .i64 (p1.length : Int)))), (10, .d (.val (.int .i64 i1_0)))]) (fun _ => [some ⟨6, [[.d (.val (.int .i64 i1_1.op)), .d (.val (.string i1_1.name)), .d (.val (.bool i1_1.num.neg)), .d (slD u32V i1_1.num.num), .d (slD u32V i1_1.num.den), .d (slD NodeA.enc i1_1.kids)]]⟩, some ⟨6, [[.d (.val (.int .i64 (0 : Int))), .d (.val (.string (⟨#[]⟩ : ByteArray))), .d (.val (.bool false)), .d (.val (.slice none 0 0)), .d (.val (.slice none 0 0)), .d (.val (.slice none 0 0))]]⟩]) (fun x => oJ11 = .go x) ?_ ?_
        · skip
          refine AW.one ?_
          refine obindE h fun oJ13 h hJ13 => ?_
          refine AW.join (S := Bool) (fun v12_0 => [(2, .ptr 0 6 0 0), (4, .ptr 1 6 0 0), (7, .d (.val (.int .i64 x8))), (8, .d (slD i64V p1)), (9, .d (.val (.int .i64 (p1.length : Int)))), (10, .d (.val (.int .i64 i1_0))), (22, .d (.val (.bool v12_0)))]) (fun v12_0 => [some ⟨6, [[.d (.val (.int .i64 i1_1.op)), .d (.val (.string i1_1.name)), .d (.val (.bool i1_1.num.neg)), .d (slD u32V i1_1.num.num), .d (slD u32V i1_1.num.den), .d (slD NodeA.enc i1_1.kids)]]⟩, some ⟨6, [[.d (.val (.int .i64 (0 : Int))), .d (.val (.string (⟨#[]⟩ : ByteArray))), .d (.val (.bool false)), .d (.val (.slice none 0 0)), .d (.val (.slice none 0 0)), .d (.val (.slice none 0 0))]]⟩]) (fun x => x = oJ13) ?_ ?_
          · skip
            refine AW.rg mixed ?_
            refine splitK_intro (fun hb14 => ?_) (fun hb14 => ?_)
            · have h := ifT hb14 h
              try simp only [go_sem, reduceEqDiff, reduceAdd, reduceSub, reduceMul, reduceLeDiff, reduceLT, Nat.reduceBEq, reduceIte, hb14]
              refine JoinQ.mk true [0, 1] (Option.some.inj h) (by simp only [go_sem, reduceEqDiff, reduceAdd, reduceSub, reduceMul, reduceLeDiff, reduceLT, Nat.reduceBEq, reduceIte, hb14])
            have h := ifF hb14 h
            try simp only [go_sem, reduceEqDiff, reduceAdd, reduceSub, reduceMul, reduceLeDiff, reduceLT, Nat.reduceBEq, reduceIte, hb14]
            refine JoinQ.mk (decide ((i1_1.kids.length : Int) ≤ x8)) [0, 1] (Option.some.inj h) (by simp only [go_sem, reduceEqDiff, reduceAdd, reduceSub, reduceMul, reduceLeDiff, reduceLT, Nat.reduceBEq, reduceIte, hb14])
          rintro v12_0 rfl
          have h := hJ13
          try dsimp only [Out.fin] at h
          refine nz ?_
          refine AW.ts v12_0 (fun hb15 => ?_) (fun hb15 => ?_)
          · have h := ifT hb15 h
            refine AW.op mixed ?_
            refine AW.ret ?_
            obtain ⟨_, h, ho⟩ := outM_some h
            rw [ho, Out.fin_out] at hJ11
            have h := h.trans hJ11
            obtain ⟨_, h, ho⟩ := outM_some h
            rw [ho, Out.fin_out] at hJ7
            have h := h.trans hJ7
            obtain ⟨_, h, ho⟩ := outM_some h
            rw [ho, Out.fin_out] at hJ4
            have h := h.trans hJ4
            obtain rfl := Option.some.inj h
            refine nz ?_
            exact .tupL ⟨.aggL ⟨.same _, .same _, .same _, .nil, .nil, .nil, trivial⟩, .same _, trivial⟩
          have h := ifF hb15 h
          refine AW.sk ?_
          exact JoinQ.ar () [0, 1] (Option.some.inj h).symm
        rintro ⟨⟩ rfl
        have h := hJ11
        try dsimp only [Out.fin] at h
        refine nz ?_
        refine AW.reg mixed (by kernel_rfl) ?_
        apply obindE h; intro x16 hx17 h
        try simp only [go_sem, reduceEqDiff, reduceAdd, reduceSub, reduceMul, reduceLeDiff, reduceLT, Nat.reduceBEq, reduceIte, (idx_some hx17).1, (idx_some hx17).2]
        refine JoinQ.mk x16 [0, 1] (Option.some.inj h).symm (by simp only [go_sem, reduceEqDiff, reduceAdd, reduceSub, reduceMul, reduceLeDiff, reduceLT, Nat.reduceBEq, reduceIte, (idx_some hx17).1, (idx_some hx17).2])
      rintro v6_0 rfl
      have h := hJ7
      try dsimp only [Out.fin] at h
      refine nz ?_
      refine AW.rg mixed ?_
      exact NextQ.ar (IntKind.wrap .i64 (i1_0 + (1 : Int)), v6_0) [0, 1] h
    have h := ifF hb5 h
    refine AW.ex ?_
    exact JoinQ.ar i1_1 [0, 1] (Option.some.inj h).symm
  rintro e2_0 rfl
  have h := hJ4
  try dsimp only [Out.fin] at h
  refine nz ?_
  refine AW.kp [0, 1] [2, 4] ?_
  refine AW.op mixed ?_
  refine AW.ret ?_
  obtain rfl := Option.some.inj h
  refine nz ?_
  exact .same _
/-! ### isochrone/tree.At -/
def tree_At (K : Nat) (p0 : NodeA) (p1 : List Int) : Option (NodeA × Int) := (tree_root K p0).bind fun r1 => 
  if (r1 != (0 : Int)) then
    some ((NodeA.mk (0 : Int) (⟨#[]⟩ : ByteArray) (RatA.mk false [] []) []), r1)
  else
    (tree_step K p0 p1).bind fun r4 => 
    if (!r4.2) then
      some ((NodeA.mk (0 : Int) (⟨#[]⟩ : ByteArray) (RatA.mk false [] []) []), (1 : Int))
    else
      (tree_Copy K r4.1).bind fun r7 => 
      some (r7, (0 : Int))
set_option maxHeartbeats 4000000 in
theorem tree_At_own {K : Nat} {p0 : NodeA} {p1 : List Int} {r : NodeA × Int} (h : tree_At K p0 p1 = some r) : Co Tryz.prog 24 [aggV p0.enc, .d (slD i64V p1)] (.tup [.agg [.d (.val (.int .i64 r.1.op)), .d (.val (.string r.1.name)), .d (.val (.bool r.1.num.neg)), .d (slD u32V r.1.num.num), .d (slD u32V r.1.num.den), accV 0 6 ((r.1.kids.map NodeA.enc).map (·.map .d))], .d (.val (.int .i64 r.2))]) (accO 6 ((r.1.kids.map NodeA.enc).map (·.map .d))) := by
  refine Co.ofA mixed Tryz.func24 rfl Tryz.call24 Tryz.ntmps24 Tryz.results24 (by simp) datO_acc (by simp only [go_sem, reduceEqDiff, reduceAdd, reduceSub, reduceMul, reduceLeDiff, reduceLT, Nat.reduceBEq, reduceIte]) fun hfit => ?_
  unfold tree_At at h
  refine AW.kp [] [0, 1] ?_
  refine AW.op mixed ?_
  refine AW.kp [0, 1] [1, 2, 4] ?_
  refine AW.one ?_
  refine AW.op mixed ?_
  apply obindE h; intro r1 hx2 h
  have hc := nx (tree_root_ok (h := hx2))
  refine callP hc ?_
  refine AW.kp [0, 1] [1, 2, 4, 6] ?_
  refine AW.op mixed ?_
  refine AW.kp [0, 1] [1, 2, 4, 6, 12] ?_
  refine AW.ts (r1 != (0 : Int)) (fun hb3 => ?_) (fun hb3 => ?_)
  · have h := ifT hb3 h
    refine AW.op mixed ?_
    refine AW.ret ?_
    obtain rfl := Option.some.inj h
    refine nz ?_
    refine OwnRes.mk 6 (nz ?_) (by simp only [go_sem, reduceEqDiff, reduceAdd, reduceSub, reduceMul, reduceLeDiff, reduceLT, Nat.reduceBEq, reduceIte])
    exact .tupL ⟨.aggL ⟨.same _, .same _, .same _, .nil, .nil, .same _, trivial⟩, .same _, trivial⟩
  have h := ifF hb3 h
  refine AW.sk ?_
  refine AW.kp [0, 1] [1, 2, 4] ?_
  refine AW.op mixed ?_
  apply obindE h; intro r4 hx5 h
  have hc := nx (tree_step_ok (h := hx5))
  refine callP hc ?_
  refine AW.kp [1, 8] [4, 7, 8] ?_
  refine AW.one ?_
  refine AW.op mixed ?_
  refine AW.kp [0, 1] [4, 7, 22] ?_
  refine AW.ts (!r4.2) (fun hb6 => ?_) (fun hb6 => ?_)
  · have h := ifT hb6 h
    refine AW.op mixed ?_
    refine AW.ret ?_
    obtain rfl := Option.some.inj h
    refine nz ?_
    refine OwnRes.mk 5 (nz ?_) (by simp only [go_sem, reduceEqDiff, reduceAdd, reduceSub, reduceMul, reduceLeDiff, reduceLT, Nat.reduceBEq, reduceIte])
    exact .tupL ⟨.aggL ⟨.same _, .same _, .same _, .nil, .nil, .same _, trivial⟩, .same _, trivial⟩
  have h := ifF hb6 h
  refine AW.sk ?_
  refine AW.kp [0, 1] [4, 7] ?_
  refine AW.op mixed ?_
  apply obindE h; intro r7 hx8 h
  have hc := nx (tree_Copy_own (h := hx8))
  refine callK_own hc (by simp only [go_sem, reduceEqDiff, reduceAdd, reduceSub, reduceMul, reduceLeDiff, reduceLT, Nat.reduceBEq, reduceIte]) ?_
  try simp only [go_sem, reduceEqDiff, reduceAdd, reduceSub, reduceMul, reduceLeDiff, reduceLT, Nat.reduceBEq, reduceIte]
  refine AW.ret ?_
  obtain rfl := Option.some.inj h
  refine nz ?_
  refine OwnRes.mk 3 (nz ?_) (by simp only [go_sem, reduceEqDiff, reduceAdd, reduceSub, reduceMul, reduceLeDiff, reduceLT, Nat.reduceBEq, reduceIte])
  exact .same _
/-! ### isochrone/tree.put -/
def tree_put_body (K : Nat) (self73 : (NodeA × (List Int) × NodeA) → Option NodeA) (p0 : NodeA) (p1 : List Int) (p2 : NodeA) : Option NodeA := if ((p1.length : Int) == (0 : Int)) then
    (tree_Copy K p2).bind fun r2 => 
    some r2
  else
    ((iter (S := Int × (List NodeA)) (R := (List NodeA)) K (fun again (i4_0, i4_1) => 
      if (decide (i4_0 < (p0.kids.length : Int))) then
        ((
          (idx p0.kids i4_0).bind fun x11 => 
          ((
            (idx p1 (0 : Int)).bind fun x15 => 
            if (i4_0 == x15) then
              (cutL p1 (some (1 : Int)) none).bind fun s18 => 
              (self73 (x11, s18, p2)).bind fun r20 => 
              some r20
            else
              (tree_Copy K x11).bind fun r22 => 
              some r22) : Option NodeA).bind (fun v13_0 => 
          (appO 104 i4_1 [v13_0]).bind fun l24 => 
          some l24)) : Option (List NodeA)).bind (fun v9_0 => 
        again (IntKind.wrap .i64 (i4_0 + (1 : Int)), v9_0))
      else
        some i4_1) ((0 : Int), [])) : Option (List NodeA)).bind (fun e5_0 => 
    (tree_Copy K (NodeA.mk (0 : Int) (⟨#[]⟩ : ByteArray) p0.num [])).bind fun r26 => 
    some (NodeA.mk p0.op p0.name r26.num e5_0))
set_option maxHeartbeats 4000000 in
theorem tree_put_step (K : Nat) (self73 : (NodeA × (List Int) × NodeA) → Option NodeA) (hself73 : ∀ (q : NodeA × (List Int) × NodeA) (r : NodeA), self73 q = some r → Cn Tryz.prog 73 [aggV q.1.enc, .d (slD i64V q.2.1), aggV q.2.2.enc] (aggV r.enc)) (p0 : NodeA) (p1 : List Int) (p2 : NodeA) (r : NodeA) (h : tree_put_body K self73 p0 p1 p2 = some r) : Cn Tryz.prog 73 [aggV p0.enc, .d (slD i64V p1), aggV p2.enc] (aggV r.enc) := by
  refine Cn.ofA mixed Tryz.func73 rfl Tryz.call73 Tryz.ntmps73 Tryz.results73 (by simp) (by simp only [go_sem, reduceEqDiff, reduceAdd, reduceSub, reduceMul, reduceLeDiff, reduceLT, Nat.reduceBEq, reduceIte]) fun hfit => ?_
  unfold tree_put_body at h
  refine AW.kp [] [0, 1, 2] ?_
  refine AW.op mixed ?_
  refine AW.kp [0, 1, 2] [1, 3, 5, 6] ?_
  refine AW.one ?_
  refine AW.op mixed ?_
  refine AW.kp [0, 1, 2] [1, 3, 5, 6, 13] ?_
  refine AW.ts ((p1.length : Int) == (0 : Int)) (fun hb1 => ?_) (fun hb1 => ?_)
  · have h := ifT hb1 h
    refine AW.op mixed ?_
    apply obindE h; intro r2 hx3 h
    have hc := nx (tree_Copy_ok (h := hx3))
    refine callP hc ?_
    refine AW.ret ?_
    obtain rfl := Option.some.inj h
    refine nz ?_
    exact .same _
  have h := ifF hb1 h
  refine AW.sk ?_
  refine AW.kp [0, 1, 2] [1, 3, 5, 6] ?_
  refine AW.op mixed ?_
  refine AW.kp [0, 1, 2, 4] [1, 3, 5, 6, 7] ?_
  refine AW.op mixed ?_
  refine AW.kp [0, 1, 2, 3] [1, 3, 5, 6, 7] ?_
  refine AW.one ?_
  refine AW.op mixed ?_
  refine AW.kp [0, 1, 2, 3] [1, 3, 5, 6, 7, 19, 20, 21] ?_
  refine obindE h fun oJ7 h hJ7 => ?_
  refine AW.join (S := (List NodeA)) (fun e5_0 => [(3, .ptr 0 6 0 0), (6, .ptr 1 6 0 0), (7, .ptr 2 6 0 0)]) (fun e5_0 => [some ⟨6, [[.d (.val (.int .i64 p0.op)), .d (.val (.string p0.name)), .d (.val (.bool p0.num.neg)), .d (slD u32V p0.num.num), .d (slD u32V p0.num.den), .d (slD NodeA.enc p0.kids)]]⟩, some ⟨6, [[.d (.val (.int .i64 (0 : Int))), .d (.val (.string (⟨#[]⟩ : ByteArray))), .d (.val (.bool false)), .d (.val (.slice none 0 0)), .d (.val (.slice none 0 0)), .d (.val (.slice none 0 0))]]⟩, some ⟨6, [[.d (.val (.int .i64 p0.op)), .d (.val (.string p0.name)), .d (.val (.bool p0.num.neg)), .d (slD u32V p0.num.num), .d (slD u32V p0.num.den), accV 3 6 ((e5_0.map NodeA.enc).map (·.map .d))]]⟩, accO 6 ((e5_0.map NodeA.enc).map (·.map .d))]) (fun x => x = oJ7) ?_ ?_
  · refine AW.block ?_
    refine AW.iter (S := Int × (List NodeA)) (fun (i4_0, i4_1) => [(1, .d (slD i64V p1)), (3, .ptr 0 6 0 0), (5, .ptr 1 6 0 0), (6, .ptr 2 6 0 0), (7, .ptr 3 6 0 0), (19, .d (slD NodeA.enc p0.kids)), (20, .d (.val (.int .i64 (p0.kids.length : Int)))), (21, .d (.val (.int .i64 i4_0)))]) (fun (i4_0, i4_1) => [some ⟨6, [[.d (.val (.int .i64 p0.op)), .d (.val (.string p0.name)), .d (.val (.bool p0.num.neg)), .d (slD u32V p0.num.num), .d (slD u32V p0.num.den), .d (slD NodeA.enc p0.kids)]]⟩, some ⟨6, [[.d (.val (.int .i64 p2.op)), .d (.val (.string p2.name)), .d (.val (.bool p2.num.neg)), .d (slD u32V p2.num.num), .d (slD u32V p2.num.den), .d (slD NodeA.enc p2.kids)]]⟩, some ⟨6, [[.d (.val (.int .i64 (0 : Int))), .d (.val (.string (⟨#[]⟩ : ByteArray))), .d (.val (.bool false)), .d (.val (.slice none 0 0)), .d (.val (.slice none 0 0)), .d (.val (.slice none 0 0))]]⟩, some ⟨6, [[.d (.val (.int .i64 p0.op)), .d (.val (.string p0.name)), .d (.val (.bool p0.num.neg)), .d (slD u32V p0.num.num), .d (slD u32V p0.num.den), accV 4 6 ((i4_1.map NodeA.enc).map (·.map .d))]]⟩, accO 6 ((i4_1.map NodeA.enc).map (·.map .d))]) [0, 1, 2, 3, 1004] h (by simp only [go_sem, reduceEqDiff, reduceAdd, reduceSub, reduceMul, reduceLeDiff, reduceLT, Nat.reduceBEq, reduceIte]) ?_
    rintro again ⟨i4_0, i4_1⟩ h
    try dsimp only at h
    refine AW.op mixed ?_
    refine AW.cu [0, 1, 2, 3, 4] [(1, .d (slD i64V p1)), (3, .ptr 0 6 0 0), (5, .ptr 1 6 0 0), (6, .ptr 2 6 0 0), (7, .ptr 3 6 0 0), (19, .d (slD NodeA.enc p0.kids)), (20, .d (.val (.int .i64 (p0.kids.length : Int)))), (21, .d (.val (.int .i64 i4_0))), (22, .d (.val (.bool (decide (i4_0 < (p0.kids.length : Int))))))] [some ⟨6, [[.d (.val (.int .i64 p0.op)), .d (.val (.string p0.name)), .d (.val (.bool p0.num.neg)), .d (slD u32V p0.num.num), .d (slD u32V p0.num.den), .d (slD NodeA.enc p0.kids)]]⟩, some ⟨6, [[.d (.val (.int .i64 p2.op)), .d (.val (.string p2.name)), .d (.val (.bool p2.num.neg)), .d (slD u32V p2.num.num), .d (slD u32V p2.num.den), .d (slD NodeA.enc p2.kids)]]⟩, some ⟨6, [[.d (.val (.int .i64 (0 : Int))), .d (.val (.string (⟨#[]⟩ : ByteArray))), .d (.val (.bool false)), .d (.val (.slice none 0 0)), .d (.val (.slice none 0 0)), .d (.val (.slice none 0 0))]]⟩, some ⟨6, [[.d (.val (.int .i64 p0.op)), .d (.val (.string p0.name)), .d (.val (.bool p0.num.neg)), .d (slD u32V p0.num.num), .d (slD u32V p0.num.den), accV 4 6 ((i4_1.map NodeA.enc).map (·.map .d))]]⟩, accO 6 ((i4_1.map NodeA.enc).map (·.map .d))] ?_
    refine AW.one ?_
    refine AW.ts (decide (i4_0 < (p0.kids.length : Int))) (fun hb8 => ?_) (fun hb8 => ?_)
    · have h := ifT hb8 h
      refine AW.sk ?_
      refine AW.cu [0, 1, 2, 3, 4] [(1, .d (slD i64V p1)), (3, .ptr 0 6 0 0), (5, .ptr 1 6 0 0), (6, .ptr 2 6 0 0), (7, .ptr 3 6 0 0), (19, .d (slD NodeA.enc p0.kids)), (20, .d (.val (.int .i64 (p0.kids.length : Int)))), (21, .d (.val (.int .i64 i4_0)))] [some ⟨6, [[.d (.val (.int .i64 p0.op)), .d (.val (.string p0.name)), .d (.val (.bool p0.num.neg)), .d (slD u32V p0.num.num), .d (slD u32V p0.num.den), .d (slD NodeA.enc p0.kids)]]⟩, some ⟨6, [[.d (.val (.int .i64 p2.op)), .d (.val (.string p2.name)), .d (.val (.bool p2.num.neg)), .d (slD u32V p2.num.num), .d (slD u32V p2.num.den), .d (slD NodeA.enc p2.kids)]]⟩, some ⟨6, [[.d (.val (.int .i64 (0 : Int))), .d (.val (.string (⟨#[]⟩ : ByteArray))), .d (.val (.bool false)), .d (.val (.slice none 0 0)), .d (.val (.slice none 0 0)), .d (.val (.slice none 0 0))]]⟩, some ⟨6, [[.d (.val (.int .i64 p0.op)), .d (.val (.string p0.name)), .d (.val (.bool p0.num.neg)), .d (slD u32V p0.num.num), .d (slD u32V p0.num.den), accV 4 6 ((i4_1.map NodeA.enc).map (·.map .d))]]⟩, accO 6 ((i4_1.map NodeA.enc).map (·.map .d))] ?_
      refine AW.one ?_
      refine obindE h fun oJ10 h hJ10 => ?_
      refine AW.join (S := (List NodeA)) (fun v9_0 => [(1, .d (slD i64V p1)), (3, .ptr 0 6 0 0), (5, .ptr 1 6 0 0), (6, .ptr 2 6 0 0), (7, .ptr 3 6 0 0), (19, .d (slD NodeA.enc p0.kids)), (20, .d (.val (.int .i64 (p0.kids.length : Int)))), (21, .d (.val (.int .i64 i4_0)))]) (fun v9_0 => [some ⟨6, [[.d (.val (.int .i64 p0.op)), .d (.val (.string p0.name)), .d (.val (.bool p0.num.neg)), .d (slD u32V p0.num.num), .d (slD u32V p0.num.den), .d (slD NodeA.enc p0.kids)]]⟩, some ⟨6, [[.d (.val (.int .i64 p2.op)), .d (.val (.string p2.name)), .d (.val (.bool p2.num.neg)), .d (slD u32V p2.num.num), .d (slD u32V p2.num.den), .d (slD NodeA.enc p2.kids)]]⟩, some ⟨6, [[.d (.val (.int .i64 (0 : Int))), .d (.val (.string (⟨#[]⟩ : ByteArray))), .d (.val (.bool false)), .d (.val (.slice none 0 0)), .d (.val (.slice none 0 0)), .d (.val (.slice none 0 0))]]⟩, some ⟨6, [[.d (.val (.int .i64 p0.op)), .d (.val (.string p0.name)), .d (.val (.bool p0.num.neg)), .d (slD u32V p0.num.num), .d (slD u32V p0.num.den), accV 4 6 ((v9_0.map NodeA.enc).map (·.map .d))]]⟩, accO 6 ((v9_0.map NodeA.enc).map (·.map .d))]) (fun x => x = oJ10) ?_ ?_
      · skip
        refine AW.block ?_
        refine AW.one ?_
        refine AW.reg mixed (by kernel_rfl) ?_
        apply obindE h; intro x11 hx12 h
        try simp only [go_sem, reduceEqDiff, reduceAdd, reduceSub, reduceMul, reduceLeDiff, reduceLT, Nat.reduceBEq, reduceIte, (idx_some hx12).1, (idx_some hx12).2]
        refine AW.cut [0, 1, 2, 3, 4, 8] [(1, .d (slD i64V p1)), (3, .ptr 0 6 0 0), (5, .ptr 1 6 0 0), (6, .ptr 2 6 0 0), (7, .ptr 3 6 0 0), (8, .d (.val (.int .i64 i4_0))), (9, .ptr 5 6 0 0), (19, .d (slD NodeA.enc p0.kids)), (20, .d (.val (.int .i64 (p0.kids.length : Int)))), (21, .d (.val (.int .i64 i4_0)))] [some ⟨6, [[.d (.val (.int .i64 p0.op)), .d (.val (.string p0.name)), .d (.val (.bool p0.num.neg)), .d (slD u32V p0.num.num), .d (slD u32V p0.num.den), .d (slD NodeA.enc p0.kids)]]⟩, some ⟨6, [[.d (.val (.int .i64 p2.op)), .d (.val (.string p2.name)), .d (.val (.bool p2.num.neg)), .d (slD u32V p2.num.num), .d (slD u32V p2.num.den), .d (slD NodeA.enc p2.kids)]]⟩, some ⟨6, [[.d (.val (.int .i64 (0 : Int))), .d (.val (.string (⟨#[]⟩ : ByteArray))), .d (.val (.bool false)), .d (.val (.slice none 0 0)), .d (.val (.slice none 0 0)), .d (.val (.slice none 0 0))]]⟩, some ⟨6, [[.d (.val (.int .i64 p0.op)), .d (.val (.string p0.name)), .d (.val (.bool p0.num.neg)), .d (slD u32V p0.num.num), .d (slD u32V p0.num.den), accV 4 6 ((i4_1.map NodeA.enc).map (·.map .d))]]⟩, accO 6 ((i4_1.map NodeA.enc).map (·.map .d)), some ⟨6, [[.d (.val (.int .i64 x11.op)), .d (.val (.string x11.name)), .d (.val (.bool x11.num.neg)), .d (slD u32V x11.num.num), .d (slD u32V x11.num.den), .d (slD NodeA.enc x11.kids)]]⟩] (by simp only [go_sem, reduceEqDiff, reduceAdd, reduceSub, reduceMul, reduceLeDiff, reduceLT, Nat.reduceBEq, reduceIte, (idx_some hx12).1, (idx_some hx12).2]) ?_
        refine AW.op mixed ?_
        refine AW.cu [0, 1, 2, 3, 4, 5, 6] [(1, .d (slD i64V p1)), (3, .ptr 0 6 0 0), (5, .ptr 1 6 0 0), (6, .ptr 2 6 0 0), (7, .ptr 3 6 0 0), (8, .d (.val (.int .i64 i4_0))), (9, .ptr 5 6 0 0), (10, .ptr 6 6 0 0), (19, .d (slD NodeA.enc p0.kids)), (20, .d (.val (.int .i64 (p0.kids.length : Int)))), (21, .d (.val (.int .i64 i4_0)))] [some ⟨6, [[.d (.val (.int .i64 p0.op)), .d (.val (.string p0.name)), .d (.val (.bool p0.num.neg)), .d (slD u32V p0.num.num), .d (slD u32V p0.num.den), .d (slD NodeA.enc p0.kids)]]⟩, some ⟨6, [[.d (.val (.int .i64 p2.op)), .d (.val (.string p2.name)), .d (.val (.bool p2.num.neg)), .d (slD u32V p2.num.num), .d (slD u32V p2.num.den), .d (slD NodeA.enc p2.kids)]]⟩, some ⟨6, [[.d (.val (.int .i64 (0 : Int))), .d (.val (.string (⟨#[]⟩ : ByteArray))), .d (.val (.bool false)), .d (.val (.slice none 0 0)), .d (.val (.slice none 0 0)), .d (.val (.slice none 0 0))]]⟩, some ⟨6, [[.d (.val (.int .i64 p0.op)), .d (.val (.string p0.name)), .d (.val (.bool p0.num.neg)), .d (slD u32V p0.num.num), .d (slD u32V p0.num.den), accV 4 6 ((i4_1.map NodeA.enc).map (·.map .d))]]⟩, accO 6 ((i4_1.map NodeA.enc).map (·.map .d)), some ⟨6, [[.d (.val (.int .i64 x11.op)), .d (.val (.string x11.name)), .d (.val (.bool x11.num.neg)), .d (slD u32V x11.num.num), .d (slD u32V x11.num.den), .d (slD NodeA.enc x11.kids)]]⟩, some ⟨6, [[.d (.val (.int .i64 (0 : Int))), .d (.val (.string (⟨#[]⟩ : ByteArray))), .d (.val (.bool false)), .d (.val (.slice none 0 0)), .d (.val (.slice none 0 0)), .d (.val (.slice none 0 0))]]⟩] ?_
        refine AW.one ?_
        refine obindE h fun oJ14 h hJ14 => ?_
        refine AW.join (S := NodeA) (fun v13_0 => [(1, .d (slD i64V p1)), (3, .ptr 0 6 0 0), (5, .ptr 1 6 0 0), (6, .ptr 2 6 0 0), (7, .ptr 3 6 0 0), (10, .ptr 4 6 0 0), (19, .d (slD NodeA.enc p0.kids)), (20, .d (.val (.int .i64 (p0.kids.length : Int)))), (21, .d (.val (.int .i64 i4_0)))]) (fun v13_0 => [some ⟨6, [[.d (.val (.int .i64 p0.op)), .d (.val (.string p0.name)), .d (.val (.bool p0.num.neg)), .d (slD u32V p0.num.num), .d (slD u32V p0.num.den), .d (slD NodeA.enc p0.kids)]]⟩, some ⟨6, [[.d (.val (.int .i64 p2.op)), .d (.val (.string p2.name)), .d (.val (.bool p2.num.neg)), .d (slD u32V p2.num.num), .d (slD u32V p2.num.den), .d (slD NodeA.enc p2.kids)]]⟩, some ⟨6, [[.d (.val (.int .i64 (0 : Int))), .d (.val (.string (⟨#[]⟩ : ByteArray))), .d (.val (.bool false)), .d (.val (.slice none 0 0)), .d (.val (.slice none 0 0)), .d (.val (.slice none 0 0))]]⟩, some ⟨6, [[.d (.val (.int .i64 p0.op)), .d (.val (.string p0.name)), .d (.val (.bool p0.num.neg)), .d (slD u32V p0.num.num), .d (slD u32V p0.num.den), accV 5 6 ((i4_1.map NodeA.enc).map (·.map .d))]]⟩, some ⟨6, [[.d (.val (.int .i64 v13_0.op)), .d (.val (.string v13_0.name)), .d (.val (.bool v13_0.num.neg)), .d (slD u32V v13_0.num.num), .d (slD u32V v13_0.num.den), .d (slD NodeA.enc v13_0.kids)]]⟩, accO 6 ((i4_1.map NodeA.enc).map (·.map .d))]) (fun x => x = oJ14) ?_ ?_
        · skip
          refine AW.one ?_
          refine AW.reg mixed (by kernel_rfl) ?_
          apply obindE h; intro x15 hx16 h
          try simp only [go_sem, reduceEqDiff, reduceAdd, reduceSub, reduceMul, reduceLeDiff, reduceLT, Nat.reduceBEq, reduceIte, (idx_some hx16).1, (idx_some hx16).2]
          refine AW.cut [0, 1, 2, 3, 4, 5, 6] [(1, .d (slD i64V p1)), (3, .ptr 0 6 0 0), (5, .ptr 1 6 0 0), (6, .ptr 2 6 0 0), (7, .ptr 3 6 0 0), (9, .ptr 5 6 0 0), (10, .ptr 6 6 0 0), (19, .d (slD NodeA.enc p0.kids)), (20, .d (.val (.int .i64 (p0.kids.length : Int)))), (21, .d (.val (.int .i64 i4_0))), (30, .d (.val (.bool (i4_0 == x15))))] [some ⟨6, [[.d (.val (.int .i64 p0.op)), .d (.val (.string p0.name)), .d (.val (.bool p0.num.neg)), .d (slD u32V p0.num.num), .d (slD u32V p0.num.den), .d (slD NodeA.enc p0.kids)]]⟩, some ⟨6, [[.d (.val (.int .i64 p2.op)), .d (.val (.string p2.name)), .d (.val (.bool p2.num.neg)), .d (slD u32V p2.num.num), .d (slD u32V p2.num.den), .d (slD NodeA.enc p2.kids)]]⟩, some ⟨6, [[.d (.val (.int .i64 (0 : Int))), .d (.val (.string (⟨#[]⟩ : ByteArray))), .d (.val (.bool false)), .d (.val (.slice none 0 0)), .d (.val (.slice none 0 0)), .d (.val (.slice none 0 0))]]⟩, some ⟨6, [[.d (.val (.int .i64 p0.op)), .d (.val (.string p0.name)), .d (.val (.bool p0.num.neg)), .d (slD u32V p0.num.num), .d (slD u32V p0.num.den), accV 4 6 ((i4_1.map NodeA.enc).map (·.map .d))]]⟩, accO 6 ((i4_1.map NodeA.enc).map (·.map .d)), some ⟨6, [[.d (.val (.int .i64 x11.op)), .d (.val (.string x11.name)), .d (.val (.bool x11.num.neg)), .d (slD u32V x11.num.num), .d (slD u32V x11.num.den), .d (slD NodeA.enc x11.kids)]]⟩, some ⟨6, [[.d (.val (.int .i64 (0 : Int))), .d (.val (.string (⟨#[]⟩ : ByteArray))), .d (.val (.bool false)), .d (.val (.slice none 0 0)), .d (.val (.slice none 0 0)), .d (.val (.slice none 0 0))]]⟩] (by simp only [go_sem, reduceEqDiff, reduceAdd, reduceSub, reduceMul, reduceLeDiff, reduceLT, Nat.reduceBEq, reduceIte, (idx_some hx16).1, (idx_some hx16).2]) ?_
          refine AW.ts (i4_0 == x15) (fun hb17 => ?_) (fun hb17 => ?_)
          · have h := ifT hb17 h
            refine AW.reg mixed (by kernel_rfl) ?_
            apply obindE h; intro s18 hx19 h
            try simp only [go_sem, reduceEqDiff, reduceAdd, reduceSub, reduceMul, reduceLeDiff, reduceLT, Nat.reduceBEq, reduceIte, hx19]
            apply obindE h; intro r20 hx21 h
            have hc := nx (hself73 _ _ hx21)
            refine pcallK_intro hc (by simp only [go_sem, reduceEqDiff, reduceAdd, reduceSub, reduceMul, reduceLeDiff, reduceLT, Nat.reduceBEq, reduceIte]) ?_
            try simp only [go_sem, reduceEqDiff, reduceAdd, reduceSub, reduceMul, reduceLeDiff, reduceLT, Nat.reduceBEq, reduceIte, hx19]
            refine JoinQ.mk r20 [0, 1, 2, 3, 6, 4] (Option.some.inj h) (by simp only [go_sem, reduceEqDiff, reduceAdd, reduceSub, reduceMul, reduceLeDiff, reduceLT, Nat.reduceBEq, reduceIte, hx19])
          have h := ifF hb17 h
          refine AW.rg mixed ?_
          apply obindE h; intro r22 hx23 h
          have hc := nx (tree_Copy_ok (h := hx23))
          refine callP hc ?_
          exact JoinQ.ar r22 [0, 1, 2, 3, 6, 4] (Option.some.inj h)
        rintro v13_0 rfl
        have h := hJ14
        try dsimp only [Out.fin] at h
        refine nz ?_
        refine AW.rg mixed ?_
        apply obindE h; intro l24 hx25 h
        refine appG hx25 rfl (by simp only [go_sem, reduceEqDiff, reduceAdd, reduceSub, reduceMul, reduceLeDiff, reduceLT, Nat.reduceBEq, reduceIte]) (by simp only [go_sem, reduceEqDiff, reduceAdd, reduceSub, reduceMul, reduceLeDiff, reduceLT, Nat.reduceBEq, reduceIte]) (by simp only [go_sem, reduceEqDiff, reduceAdd, reduceSub, reduceMul, reduceLeDiff, reduceLT, Nat.reduceBEq, reduceIte]) (by simp) ?_
        try simp only [go_sem, reduceEqDiff, reduceAdd, reduceSub, reduceMul, reduceLeDiff, reduceLT, Nat.reduceBEq, reduceIte]
        exact JoinQ.ar l24 [0, 1, 2, 3, 10] (Option.some.inj h)
      rintro v9_0 rfl
      have h := hJ10
      try dsimp only [Out.fin] at h
      refine nz ?_
      refine AW.rg mixed ?_
      exact NextQ.ar (IntKind.wrap .i64 (i4_0 + (1 : Int)), v9_0) [0, 1, 2, 3, 4] h
    have h := ifF hb8 h
    refine AW.ex ?_
    exact JoinQ.ar i4_1 [0, 2, 3, 4] (Option.some.inj h)
  rintro e5_0 rfl
  have h := hJ7
  try dsimp only [Out.fin] at h
  refine nz ?_
  refine AW.cu [0, 1, 2, 3] [(3, .ptr 0 6 0 0), (6, .ptr 1 6 0 0), (7, .ptr 2 6 0 0)] [some ⟨6, [[.d (.val (.int .i64 p0.op)), .d (.val (.string p0.name)), .d (.val (.bool p0.num.neg)), .d (slD u32V p0.num.num), .d (slD u32V p0.num.den), .d (slD NodeA.enc p0.kids)]]⟩, some ⟨6, [[.d (.val (.int .i64 (0 : Int))), .d (.val (.string (⟨#[]⟩ : ByteArray))), .d (.val (.bool false)), .d (.val (.slice none 0 0)), .d (.val (.slice none 0 0)), .d (.val (.slice none 0 0))]]⟩, some ⟨6, [[.d (.val (.int .i64 p0.op)), .d (.val (.string p0.name)), .d (.val (.bool p0.num.neg)), .d (slD u32V p0.num.num), .d (slD u32V p0.num.den), accV 3 6 ((e5_0.map NodeA.enc).map (·.map .d))]]⟩, accO 6 ((e5_0.map NodeA.enc).map (·.map .d))] ?_
  refine AW.op mixed ?_
  apply obindE h; intro r26 hx27 h
  have hc := nx (tree_Copy_ok (h := hx27))
  refine callK_conv hc ⟨.aggL ⟨.same _, .same _, .same _, .same _, .same _, .nil, trivial⟩, trivial⟩ (by simp only [go_sem, reduceEqDiff, reduceAdd, reduceSub, reduceMul, reduceLeDiff, reduceLT, Nat.reduceBEq, reduceIte]) ?_
  try simp only [go_sem, reduceEqDiff, reduceAdd, reduceSub, reduceMul, reduceLeDiff, reduceLT, Nat.reduceBEq, reduceIte]
  refine AW.cu [1, 2, 3] [(6, .ptr 0 6 0 0), (7, .ptr 1 6 0 0)] [some ⟨6, [[.d (.val (.int .i64 (0 : Int))), .d (.val (.string (⟨#[]⟩ : ByteArray))), .d (.val (.bool false)), .d (.val (.slice none 0 0)), .d (.val (.slice none 0 0)), .d (.val (.slice none 0 0))]]⟩, some ⟨6, [[.d (.val (.int .i64 p0.op)), .d (.val (.string p0.name)), .d (.val (.bool r26.num.neg)), .d (slD u32V r26.num.num), .d (slD u32V r26.num.den), accV 2 6 ((e5_0.map NodeA.enc).map (·.map .d))]]⟩, accO 6 ((e5_0.map NodeA.enc).map (·.map .d))] ?_
  refine AW.op mixed ?_
  refine AW.ret ?_
  obtain rfl := Option.some.inj h
  refine nz ?_
  exact .aggL ⟨.same _, .same _, .same _, .same _, .same _, sealAcc (by simp only [go_sem, reduceEqDiff, reduceAdd, reduceSub, reduceMul, reduceLeDiff, reduceLT, Nat.reduceBEq, reduceIte]), trivial⟩
def tree_put (K : Nat) (p0 : NodeA) (p1 : List Int) (p2 : NodeA) : Option NodeA := iter K (fun self q => tree_put_body K self q.1 q.2.1 q.2.2) (p0, p1, p2)
theorem key_tree_put {K : Nat} (k : Nat) : (∀ (q : NodeA × (List Int) × NodeA) (r : NodeA), iter k (fun self q => tree_put_body K self q.1 q.2.1 q.2.2) q = some r → Cn Tryz.prog 73 [aggV q.1.enc, .d (slD i64V q.2.1), aggV q.2.2.enc] (aggV r.enc)) := by
  induction k with
  | zero => exact fun q r h => by cases h
  | succ k ih => exact fun q r h => tree_put_step K _ ih q.1 q.2.1 q.2.2 r h
theorem tree_put_ok {K : Nat} {p0 : NodeA} {p1 : List Int} {p2 : NodeA} {r : NodeA} (h : tree_put K p0 p1 p2 = some r) : Cn Tryz.prog 73 [aggV p0.enc, .d (slD i64V p1), aggV p2.enc] (aggV r.enc) := (key_tree_put K) (p0, p1, p2) r h
/-! ### isochrone/tree.Replace -/
def tree_Replace (K : Nat) (p0 : NodeA) (p1 : List Int) (p2 : NodeA) : Option (NodeA × Int) := (tree_root K p0).bind fun r1 => 
  if (r1 != (0 : Int)) then
    some ((NodeA.mk (0 : Int) (⟨#[]⟩ : ByteArray) (RatA.mk false [] []) []), r1)
  else
    (tree_step K p0 p1).bind fun r4 => 
    if (!r4.2) then
      some ((NodeA.mk (0 : Int) (⟨#[]⟩ : ByteArray) (RatA.mk false [] []) []), (1 : Int))
    else
      ((
        ((
          (tree_Sort K r4.1.op).bind fun r11 => 
          (tree_Sort K p2.op).bind fun r13 => 
          if (r11 != r13) then
            some true
          else
            (tree_Sort K p2.op).bind fun r16 => 
            some (r16 == (0 : Int))) : Option Bool).bind (fun v9_0 => 
        if v9_0 then
          outM (
            some ((NodeA.mk (0 : Int) (⟨#[]⟩ : ByteArray) (RatA.mk false [] []) []), (80 : Int)))
        else
          some (.go ()))) : Option (Out Unit _)).bind (Out.fin fun _ => 
      (tree_within K p2 (4000 : Int) (60 : Int)).bind fun r19 => 
      if (!r19.1) then
        some ((NodeA.mk (0 : Int) (⟨#[]⟩ : ByteArray) (RatA.mk false [] []) []), (2 : Int))
      else
        (tree_put K p0 p1 p2).bind fun r22 => 
        (tree_Sort K r22.op).bind fun r24 => 
        (tree_Check K r22 r24).bind fun r26 => 
        if (r26 != (0 : Int)) then
          some ((NodeA.mk (0 : Int) (⟨#[]⟩ : ByteArray) (RatA.mk false [] []) []), r26)
        else
          some (r22, (0 : Int)))
set_option maxHeartbeats 4000000 in
theorem tree_Replace_ok {K : Nat} {p0 : NodeA} {p1 : List Int} {p2 : NodeA} {r : NodeA × Int} (h : tree_Replace K p0 p1 p2 = some r) : Cn Tryz.prog 32 [aggV p0.enc, .d (slD i64V p1), aggV p2.enc] (.tup [aggV r.1.enc, .d (.val (.int .i64 r.2))]) := by
  refine Cn.ofA mixed Tryz.func32 rfl Tryz.call32 Tryz.ntmps32 Tryz.results32 (by simp) (by simp only [go_sem, reduceEqDiff, reduceAdd, reduceSub, reduceMul, reduceLeDiff, reduceLT, Nat.reduceBEq, reduceIte]) fun hfit => ?_
  unfold tree_Replace at h
  refine AW.kp [] [0, 1, 2] ?_
  refine AW.op mixed ?_
  refine AW.kp [0, 1, 2] [1, 3, 5, 6] ?_
  refine AW.one ?_
  refine AW.op mixed ?_
  apply obindE h; intro r1 hx2 h
  have hc := nx (tree_root_ok (h := hx2))
  refine callP hc ?_
  refine AW.kp [0, 1, 2] [1, 3, 5, 6, 8] ?_
  refine AW.op mixed ?_
  refine AW.kp [0, 1, 2] [1, 3, 5, 6, 8, 17] ?_
  refine AW.ts (r1 != (0 : Int)) (fun hb3 => ?_) (fun hb3 => ?_)
  · have h := ifT hb3 h
    refine AW.op mixed ?_
    refine AW.ret ?_
    obtain rfl := Option.some.inj h
    refine nz ?_
    exact .tupL ⟨.aggL ⟨.same _, .same _, .same _, .nil, .nil, .nil, trivial⟩, .same _, trivial⟩
  have h := ifF hb3 h
  refine AW.sk ?_
  refine AW.kp [0, 1, 2] [1, 3, 5, 6] ?_
  refine AW.op mixed ?_
  apply obindE h; intro r4 hx5 h
  have hc := nx (tree_step_ok (h := hx5))
  refine callP hc ?_
  refine AW.kp [0, 1, 2, 9] [1, 3, 5, 6, 9, 10] ?_
  refine AW.one ?_
  refine AW.op mixed ?_
  refine AW.kp [0, 1, 2, 3] [1, 3, 5, 6, 9, 27] ?_
  refine AW.ts (!r4.2) (fun hb6 => ?_) (fun hb6 => ?_)
  · have h := ifT hb6 h
    refine AW.op mixed ?_
    refine AW.ret ?_
    obtain rfl := Option.some.inj h
    refine nz ?_
    exact .tupL ⟨.aggL ⟨.same _, .same _, .same _, .nil, .nil, .nil, trivial⟩, .same _, trivial⟩
  have h := ifF hb6 h
  refine AW.sk ?_
  refine AW.kp [0, 1, 2, 3] [1, 3, 5, 6, 9] ?_
  refine AW.one ?_
  refine obindE h fun oJ8 h hJ8 => ?_
  refine AW.join (S := Unit) (fun _ => [(1, .d (slD i64V p1)), (3, .ptr 0 6 0 0), (5, .ptr 1 6 0 0), (6, .ptr 2 6 0 0)]) (fun _ => [some ⟨6, [[.d (.val (.int .i64 p0.op)), .d (.val (.string p0.name)), .d (.val (.bool p0.num.neg)), .d (slD u32V p0.num.num), .d (slD u32V p0.num.den), .d (slD NodeA.enc p0.kids)]]⟩, some ⟨6, [[.d (.val (.int .i64 p2.op)), .d (.val (.string p2.name)), .d (.val (.bool p2.num.neg)), .d (slD u32V p2.num.num), .d (slD u32V p2.num.den), .d (slD NodeA.enc p2.kids)]]⟩, some ⟨6, [[.d (.val (.int .i64 (0 : Int))), .d (.val (.string (⟨#[]⟩ : ByteArray))), .d (.val (.bool false)), .d (.val (.slice none 0 0)), .d (.val (.slice none 0 0)), .d (.val (.slice none 0 0))]]⟩]) (fun x => oJ8 = .go x) ?_ ?_
  · skip
    refine AW.one ?_
    refine obindE h fun oJ10 h hJ10 => ?_
    refine AW.join (S := Bool) (fun v9_0 => [(1, .d (slD i64V p1)), (3, .ptr 0 6 0 0), (5, .ptr 1 6 0 0), (6, .ptr 2 6 0 0), (41, .d (.val (.bool v9_0)))]) (fun v9_0 => [some ⟨6, [[.d (.val (.int .i64 p0.op)), .d (.val (.string p0.name)), .d (.val (.bool p0.num.neg)), .d (slD u32V p0.num.num), .d (slD u32V p0.num.den), .d (slD NodeA.enc p0.kids)]]⟩, some ⟨6, [[.d (.val (.int .i64 p2.op)), .d (.val (.string p2.name)), .d (.val (.bool p2.num.neg)), .d (slD u32V p2.num.num), .d (slD u32V p2.num.den), .d (slD NodeA.enc p2.kids)]]⟩, some ⟨6, [[.d (.val (.int .i64 (0 : Int))), .d (.val (.string (⟨#[]⟩ : ByteArray))), .d (.val (.bool false)), .d (.val (.slice none 0 0)), .d (.val (.slice none 0 0)), .d (.val (.slice none 0 0))]]⟩]) (fun x => x = oJ10) ?_ ?_
    · skip
      refine AW.rg mixed ?_
      apply obindE h; intro r11 hx12 h
      have hc := nx (tree_Sort_ok (h := hx12))
      refine callD hc ?_
      apply obindE h; intro r13 hx14 h
      have hc := nx (tree_Sort_ok (h := hx14))
      refine callD hc ?_
      refine splitK_intro (fun hb15 => ?_) (fun hb15 => ?_)
      · have h := ifT hb15 h
        try simp only [go_sem, reduceEqDiff, reduceAdd, reduceSub, reduceMul, reduceLeDiff, reduceLT, Nat.reduceBEq, reduceIte, hb15]
        refine JoinQ.mk true [0, 1, 2] (Option.some.inj h) (by simp only [go_sem, reduceEqDiff, reduceAdd, reduceSub, reduceMul, reduceLeDiff, reduceLT, Nat.reduceBEq, reduceIte, hb15])
      have h := ifF hb15 h
      try simp only [go_sem, reduceEqDiff, reduceAdd, reduceSub, reduceMul, reduceLeDiff, reduceLT, Nat.reduceBEq, reduceIte, hb15]
      apply obindE h; intro r16 hx17 h
      have hc := nx (tree_Sort_ok (h := hx17))
      refine pcallK_intro hc (by simp only [go_sem, reduceEqDiff, reduceAdd, reduceSub, reduceMul, reduceLeDiff, reduceLT, Nat.reduceBEq, reduceIte]) ?_
      try simp only [go_sem, reduceEqDiff, reduceAdd, reduceSub, reduceMul, reduceLeDiff, reduceLT, Nat.reduceBEq, reduceIte, hb15]
      refine JoinQ.mk (r16 == (0 : Int)) [0, 1, 2] (Option.some.inj h) (by simp only [go_sem, reduceEqDiff, reduceAdd, reduceSub, reduceMul, reduceLeDiff, reduceLT, Nat.reduceBEq, reduceIte, hb15])
    rintro v9_0 rfl
    have h := hJ10
    try dsimp only [Out.fin] at h
    refine nz ?_
    refine AW.ts v9_0 (fun hb18 => ?_) (fun hb18 => ?_)
    · have h := ifT hb18 h
      refine AW.op mixed ?_
      refine AW.ret ?_
      obtain ⟨_, h, ho⟩ := outM_some h
      rw [ho, Out.fin_out] at hJ8
      have h := h.trans hJ8
      obtain rfl := Option.some.inj h
      refine nz ?_
      exact .tupL ⟨.aggL ⟨.same _, .same _, .same _, .nil, .nil, .nil, trivial⟩, .same _, trivial⟩
    have h := ifF hb18 h
    refine AW.sk ?_
    exact JoinQ.ar () [0, 1, 2] (Option.some.inj h).symm
  rintro ⟨⟩ rfl
  have h := hJ8
  try dsimp only [Out.fin] at h
  refine nz ?_
  refine AW.op mixed ?_
  refine AW.kp [0, 1, 2, 3] [1, 3, 5, 6, 11] ?_
  refine AW.one ?_
  refine AW.op mixed ?_
  apply obindE h; intro r19 hx20 h
  have hc := nx (tree_within_ok (h := hx20))
  refine callK_loc [3] hc (by simp only [go_sem, reduceEqDiff, reduceAdd, reduceSub, reduceMul, reduceLeDiff, reduceLT, Nat.reduceBEq, reduceIte]) (by simp) (by simp only [go_sem, reduceEqDiff, reduceAdd, reduceSub, reduceMul, reduceLeDiff, reduceLT, Nat.reduceBEq, reduceIte]) ?_
  try simp only [go_sem, reduceEqDiff, reduceAdd, reduceSub, reduceMul, reduceLeDiff, reduceLT, Nat.reduceBEq, reduceIte]
  refine AW.kp [0, 1, 2] [1, 3, 5, 6, 45] ?_
  refine AW.ts (!r19.1) (fun hb21 => ?_) (fun hb21 => ?_)
  · have h := ifT hb21 h
    refine AW.op mixed ?_
    refine AW.ret ?_
    obtain rfl := Option.some.inj h
    refine nz ?_
    exact .tupL ⟨.aggL ⟨.same _, .same _, .same _, .nil, .nil, .nil, trivial⟩, .same _, trivial⟩
  have h := ifF hb21 h
  refine AW.sk ?_
  refine AW.kp [0, 1, 2] [1, 3, 5, 6] ?_
  refine AW.op mixed ?_
  apply obindE h; intro r22 hx23 h
  have hc := nx (tree_put_ok (h := hx23))
  refine callP hc ?_
  refine AW.kp [2, 7] [6, 12] ?_
  refine AW.one ?_
  refine AW.op mixed ?_
  apply obindE h; intro r24 hx25 h
  have hc := nx (tree_Sort_ok (h := hx25))
  refine callD hc ?_
  apply obindE h; intro r26 hx27 h
  have hc := nx (tree_Check_ok (h := hx27))
  refine callD hc ?_
  refine AW.kp [0, 1] [6, 12, 13] ?_
  refine AW.op mixed ?_
  refine AW.kp [0, 1] [6, 12, 13, 57] ?_
  refine AW.ts (r26 != (0 : Int)) (fun hb28 => ?_) (fun hb28 => ?_)
  · have h := ifT hb28 h
    refine AW.op mixed ?_
    refine AW.ret ?_
    obtain rfl := Option.some.inj h
    refine nz ?_
    exact .tupL ⟨.aggL ⟨.same _, .same _, .same _, .nil, .nil, .nil, trivial⟩, .same _, trivial⟩
  have h := ifF hb28 h
  refine AW.sk ?_
  refine AW.kp [0, 1] [6, 12] ?_
  refine AW.op mixed ?_
  refine AW.ret ?_
  obtain rfl := Option.some.inj h
  refine nz ?_
  exact .same _
/-! ### isochrone/rename.Bound -/
def rename_Bound (K : Nat) (p0 : NodeA) (p1 : List Int) (p2 : ByteArray) : Option (NodeA × Int) := (rename_check K p0).bind fun r1 => 
  if (r1 != (0 : Int)) then
    some ((NodeA.mk (0 : Int) (⟨#[]⟩ : ByteArray) (RatA.mk false [] []) []), r1)
  else
    (tree_At K p0 p1).bind fun r4 => 
    if (r4.2 != (0 : Int)) then
      some ((NodeA.mk (0 : Int) (⟨#[]⟩ : ByteArray) (RatA.mk false [] []) []), r4.2)
    else
      (rename_binder K r4.1).bind fun r7 => 
      ((
        ((
          (tree_Name K p2).bind fun r13 => 
          if (!r13) then
            some true
          else
            some (!r7.2.2)) : Option Bool).bind (fun v11_0 => 
        if v11_0 then
          outM (
            some ((NodeA.mk (0 : Int) (⟨#[]⟩ : ByteArray) (RatA.mk false [] []) []), (3 : Int)))
        else
          some (.go ()))) : Option (Out Unit _)).bind (Out.fin fun _ => 
      (idx r4.1.kids r7.2.1).bind fun x17 => 
      ((
        ((
          (rename_renamable K x17).bind fun r23 => 
          if (!r23) then
            some true
          else
            some (r7.1.toList == p2.toList)) : Option Bool).bind (fun v21_0 => 
        if v21_0 then
          outM (
            some ((NodeA.mk (0 : Int) (⟨#[]⟩ : ByteArray) (RatA.mk false [] []) []), (180 : Int)))
        else
          some (.go ()))) : Option (Out Unit _)).bind (Out.fin fun _ => 
      (static_FreeOf K x17).bind fun r27 => 
      (static_BoundOf K x17).bind fun r29 => 
      (catO p2 (⟨#[39]⟩ : ByteArray)).bind fun s31 => 
      (catO r7.1 (⟨#[39]⟩ : ByteArray)).bind fun s33 => 
      (some [p2, s31, s33]).bind fun l35 => 
      ((iter (S := Int) (R := Out Unit _) K (fun again i37_0 => 
        if (decide (i37_0 < ([p2, s31, s33].length : Int))) then
          ((
            (idx l35 i37_0).bind fun x44 => 
            ((
              (static_Has K r27 x44).bind fun r48 => 
              if r48 then
                some true
              else
                (static_Has K r29 x44).bind fun r51 => 
                some r51) : Option Bool).bind (fun v46_0 => 
            if v46_0 then
              outM (
                outM (
                  some ((NodeA.mk (0 : Int) (⟨#[]⟩ : ByteArray) (RatA.mk false [] []) []), (180 : Int))))
            else
              some (.go ()))) : Option (Out Unit _)).bind (Out.fin fun _ => 
          again (IntKind.wrap .i64 (i37_0 + (1 : Int))))
        else
          some (.go ())) (0 : Int)) : Option (Out Unit _)).bind (Out.fin fun _ => 
      (rename_uniform K x17 r7.1 p2).bind fun r54 => 
      (idx r4.1.kids r7.2.1).bind fun x56 => 
      ((
        if (r7.2.1 == (0 : Int)) then
          some (p2, (r4.1.kids.set (r7.2.1.toNat) r54))
        else
          (idx (r4.1.kids.set (r7.2.1.toNat) r54) (0 : Int)).bind fun x61 => 
          some (r4.1.name, ((r4.1.kids.set (r7.2.1.toNat) r54).set ((0 : Int).toNat) (NodeA.mk x61.op p2 x61.num x61.kids)))) : Option (ByteArray × (List NodeA))).bind (fun (v58_0, v58_1) => 
      (tree_Replace K p0 p1 (NodeA.mk r4.1.op v58_0 r4.1.num v58_1)).bind fun r63 => 
      some (r63.1, r63.2)))))
set_option maxHeartbeats 4000000 in
theorem rename_Bound_ok {K : Nat} {p0 : NodeA} {p1 : List Int} {p2 : ByteArray} {r : NodeA × Int} (h : rename_Bound K p0 p1 p2 = some r) : Cn Tryz.prog 9 [aggV p0.enc, .d (slD i64V p1), .d (.val (.string p2))] (.tup [aggV r.1.enc, .d (.val (.int .i64 r.2))]) := by
  refine Cn.ofA mixed Tryz.func9 rfl Tryz.call9 Tryz.ntmps9 Tryz.results9 (by simp) (by simp only [go_sem, reduceEqDiff, reduceAdd, reduceSub, reduceMul, reduceLeDiff, reduceLT, Nat.reduceBEq, reduceIte]) fun hfit => ?_
  unfold rename_Bound at h
  refine AW.kp [] [0, 1, 2] ?_
  refine AW.op mixed ?_
  refine AW.kp [0, 1] [1, 2, 3, 6] ?_
  refine AW.one ?_
  refine AW.op mixed ?_
  apply obindE h; intro r1 hx2 h
  have hc := nx (rename_check_ok (h := hx2))
  refine callP hc ?_
  refine AW.kp [0, 1] [1, 2, 3, 6, 8] ?_
  refine AW.op mixed ?_
  refine AW.kp [0, 1] [1, 2, 3, 6, 8, 22] ?_
  refine AW.ts (r1 != (0 : Int)) (fun hb3 => ?_) (fun hb3 => ?_)
  · have h := ifT hb3 h
    refine AW.op mixed ?_
    refine AW.ret ?_
    obtain rfl := Option.some.inj h
    refine nz ?_
    exact .tupL ⟨.aggL ⟨.same _, .same _, .same _, .nil, .nil, .nil, trivial⟩, .same _, trivial⟩
  have h := ifF hb3 h
  refine AW.sk ?_
  refine AW.kp [0, 1] [1, 2, 3, 6] ?_
  refine AW.op mixed ?_
  apply obindE h; intro r4 hx5 h
  have hc := nx (tree_At_own (h := hx5))
  refine callK_own hc (by simp only [go_sem, reduceEqDiff, reduceAdd, reduceSub, reduceMul, reduceLeDiff, reduceLT, Nat.reduceBEq, reduceIte]) ?_
  try simp only [go_sem, reduceEqDiff, reduceAdd, reduceSub, reduceMul, reduceLeDiff, reduceLT, Nat.reduceBEq, reduceIte]
  refine AW.cu [0, 1, 8, 4] [(1, .d (slD i64V p1)), (2, .d (.val (.string p2))), (3, .ptr 0 6 0 0), (6, .ptr 1 6 0 0), (9, .ptr 2 6 0 0), (10, .d (.val (.int .i64 r4.2)))] [some ⟨6, [[.d (.val (.int .i64 p0.op)), .d (.val (.string p0.name)), .d (.val (.bool p0.num.neg)), .d (slD u32V p0.num.num), .d (slD u32V p0.num.den), .d (slD NodeA.enc p0.kids)]]⟩, some ⟨6, [[.d (.val (.int .i64 (0 : Int))), .d (.val (.string (⟨#[]⟩ : ByteArray))), .d (.val (.bool false)), .d (.val (.slice none 0 0)), .d (.val (.slice none 0 0)), .d (.val (.slice none 0 0))]]⟩, some ⟨6, [[.d (.val (.int .i64 r4.1.op)), .d (.val (.string r4.1.name)), .d (.val (.bool r4.1.num.neg)), .d (slD u32V r4.1.num.num), .d (slD u32V r4.1.num.den), accV 3 6 ((r4.1.kids.map NodeA.enc).map (·.map .d))]]⟩, accO 6 ((r4.1.kids.map NodeA.enc).map (·.map .d))] ?_
  refine AW.one ?_
  refine AW.op mixed ?_
  refine AW.cu [0, 1, 2, 3] [(1, .d (slD i64V p1)), (2, .d (.val (.string p2))), (3, .ptr 0 6 0 0), (6, .ptr 1 6 0 0), (9, .ptr 2 6 0 0), (10, .d (.val (.int .i64 r4.2))), (32, .d (.val (.bool (r4.2 != (0 : Int)))))] [some ⟨6, [[.d (.val (.int .i64 p0.op)), .d (.val (.string p0.name)), .d (.val (.bool p0.num.neg)), .d (slD u32V p0.num.num), .d (slD u32V p0.num.den), .d (slD NodeA.enc p0.kids)]]⟩, some ⟨6, [[.d (.val (.int .i64 (0 : Int))), .d (.val (.string (⟨#[]⟩ : ByteArray))), .d (.val (.bool false)), .d (.val (.slice none 0 0)), .d (.val (.slice none 0 0)), .d (.val (.slice none 0 0))]]⟩, some ⟨6, [[.d (.val (.int .i64 r4.1.op)), .d (.val (.string r4.1.name)), .d (.val (.bool r4.1.num.neg)), .d (slD u32V r4.1.num.num), .d (slD u32V r4.1.num.den), accV 3 6 ((r4.1.kids.map NodeA.enc).map (·.map .d))]]⟩, accO 6 ((r4.1.kids.map NodeA.enc).map (·.map .d))] ?_
  refine AW.ts (r4.2 != (0 : Int)) (fun hb6 => ?_) (fun hb6 => ?_)
  · have h := ifT hb6 h
    refine AW.op mixed ?_
    refine AW.ret ?_
    obtain rfl := Option.some.inj h
    refine nz ?_
    exact .tupL ⟨.aggL ⟨.same _, .same _, .same _, .nil, .nil, .nil, trivial⟩, .same _, trivial⟩
  have h := ifF hb6 h
  refine AW.sk ?_
  refine AW.cu [0, 1, 2, 3] [(1, .d (slD i64V p1)), (2, .d (.val (.string p2))), (3, .ptr 0 6 0 0), (6, .ptr 1 6 0 0), (9, .ptr 2 6 0 0)] [some ⟨6, [[.d (.val (.int .i64 p0.op)), .d (.val (.string p0.name)), .d (.val (.bool p0.num.neg)), .d (slD u32V p0.num.num), .d (slD u32V p0.num.den), .d (slD NodeA.enc p0.kids)]]⟩, some ⟨6, [[.d (.val (.int .i64 (0 : Int))), .d (.val (.string (⟨#[]⟩ : ByteArray))), .d (.val (.bool false)), .d (.val (.slice none 0 0)), .d (.val (.slice none 0 0)), .d (.val (.slice none 0 0))]]⟩, some ⟨6, [[.d (.val (.int .i64 r4.1.op)), .d (.val (.string r4.1.name)), .d (.val (.bool r4.1.num.neg)), .d (slD u32V r4.1.num.num), .d (slD u32V r4.1.num.den), accV 3 6 ((r4.1.kids.map NodeA.enc).map (·.map .d))]]⟩, accO 6 ((r4.1.kids.map NodeA.enc).map (·.map .d))] ?_
  refine AW.op mixed ?_
  apply obindE h; intro r7 hx8 h
  have hc := nx (rename_binder_ok (h := hx8))
  refine callK_look hc ⟨.aggL ⟨.same _, .same _, .same _, .same _, .same _, sealAcc (by simp only [go_sem, reduceEqDiff, reduceAdd, reduceSub, reduceMul, reduceLeDiff, reduceLT, Nat.reduceBEq, reduceIte]), trivial⟩, trivial⟩ (by simp only [go_sem, reduceEqDiff, reduceAdd, reduceSub, reduceMul, reduceLeDiff, reduceLT, Nat.reduceBEq, reduceIte]) (by simp [V.flat, V.flatL]) ?_
  try simp only [go_sem, reduceEqDiff, reduceAdd, reduceSub, reduceMul, reduceLeDiff, reduceLT, Nat.reduceBEq, reduceIte]
  refine AW.cu [0, 1, 2, 3] [(1, .d (slD i64V p1)), (2, .d (.val (.string p2))), (3, .ptr 0 6 0 0), (6, .ptr 1 6 0 0), (9, .ptr 2 6 0 0), (11, .d (.val (.string r7.1))), (12, .d (.val (.int .i64 r7.2.1))), (13, .d (.val (.bool r7.2.2)))] [some ⟨6, [[.d (.val (.int .i64 p0.op)), .d (.val (.string p0.name)), .d (.val (.bool p0.num.neg)), .d (slD u32V p0.num.num), .d (slD u32V p0.num.den), .d (slD NodeA.enc p0.kids)]]⟩, some ⟨6, [[.d (.val (.int .i64 (0 : Int))), .d (.val (.string (⟨#[]⟩ : ByteArray))), .d (.val (.bool false)), .d (.val (.slice none 0 0)), .d (.val (.slice none 0 0)), .d (.val (.slice none 0 0))]]⟩, some ⟨6, [[.d (.val (.int .i64 r4.1.op)), .d (.val (.string r4.1.name)), .d (.val (.bool r4.1.num.neg)), .d (slD u32V r4.1.num.num), .d (slD u32V r4.1.num.den), accV 3 6 ((r4.1.kids.map NodeA.enc).map (·.map .d))]]⟩, accO 6 ((r4.1.kids.map NodeA.enc).map (·.map .d))] ?_
  refine AW.one ?_
  refine obindE h fun oJ10 h hJ10 => ?_
  refine AW.join (S := Unit) (fun _ => [(1, .d (slD i64V p1)), (2, .d (.val (.string p2))), (3, .ptr 0 6 0 0), (6, .ptr 1 6 0 0), (9, .ptr 2 6 0 0), (11, .d (.val (.string r7.1))), (12, .d (.val (.int .i64 r7.2.1)))]) (fun _ => [some ⟨6, [[.d (.val (.int .i64 p0.op)), .d (.val (.string p0.name)), .d (.val (.bool p0.num.neg)), .d (slD u32V p0.num.num), .d (slD u32V p0.num.den), .d (slD NodeA.enc p0.kids)]]⟩, some ⟨6, [[.d (.val (.int .i64 (0 : Int))), .d (.val (.string (⟨#[]⟩ : ByteArray))), .d (.val (.bool false)), .d (.val (.slice none 0 0)), .d (.val (.slice none 0 0)), .d (.val (.slice none 0 0))]]⟩, some ⟨6, [[.d (.val (.int .i64 r4.1.op)), .d (.val (.string r4.1.name)), .d (.val (.bool r4.1.num.neg)), .d (slD u32V r4.1.num.num), .d (slD u32V r4.1.num.den), accV 3 6 ((r4.1.kids.map NodeA.enc).map (·.map .d))]]⟩, accO 6 ((r4.1.kids.map NodeA.enc).map (·.map .d))]) (fun x => oJ10 = .go x) ?_ ?_
  · skip
    refine AW.one ?_
    refine obindE h fun oJ12 h hJ12 => ?_
    refine AW.join (S := Bool) (fun v11_0 => [(1, .d (slD i64V p1)), (2, .d (.val (.string p2))), (3, .ptr 0 6 0 0), (6, .ptr 1 6 0 0), (9, .ptr 2 6 0 0), (11, .d (.val (.string r7.1))), (12, .d (.val (.int .i64 r7.2.1))), (47, .d (.val (.bool v11_0)))]) (fun v11_0 => [some ⟨6, [[.d (.val (.int .i64 p0.op)), .d (.val (.string p0.name)), .d (.val (.bool p0.num.neg)), .d (slD u32V p0.num.num), .d (slD u32V p0.num.den), .d (slD NodeA.enc p0.kids)]]⟩, some ⟨6, [[.d (.val (.int .i64 (0 : Int))), .d (.val (.string (⟨#[]⟩ : ByteArray))), .d (.val (.bool false)), .d (.val (.slice none 0 0)), .d (.val (.slice none 0 0)), .d (.val (.slice none 0 0))]]⟩, some ⟨6, [[.d (.val (.int .i64 r4.1.op)), .d (.val (.string r4.1.name)), .d (.val (.bool r4.1.num.neg)), .d (slD u32V r4.1.num.num), .d (slD u32V r4.1.num.den), accV 3 6 ((r4.1.kids.map NodeA.enc).map (·.map .d))]]⟩, accO 6 ((r4.1.kids.map NodeA.enc).map (·.map .d))]) (fun x => x = oJ12) ?_ ?_
    · skip
      refine AW.rg mixed ?_
      apply obindE h; intro r13 hx14 h
      have hc := nx (tree_Name_ok (h := hx14))
      refine callP hc ?_
      refine splitK_intro (fun hb15 => ?_) (fun hb15 => ?_)
      · have h := ifT hb15 h
        try simp only [go_sem, reduceEqDiff, reduceAdd, reduceSub, reduceMul, reduceLeDiff, reduceLT, Nat.reduceBEq, reduceIte, hb15]
        refine JoinQ.mk true [0, 1, 2, 3] (Option.some.inj h) (by simp only [go_sem, reduceEqDiff, reduceAdd, reduceSub, reduceMul, reduceLeDiff, reduceLT, Nat.reduceBEq, reduceIte, hb15])
      have h := ifF hb15 h
      try simp only [go_sem, reduceEqDiff, reduceAdd, reduceSub, reduceMul, reduceLeDiff, reduceLT, Nat.reduceBEq, reduceIte, hb15]
      refine JoinQ.mk (!r7.2.2) [0, 1, 2, 3] (Option.some.inj h) (by simp only [go_sem, reduceEqDiff, reduceAdd, reduceSub, reduceMul, reduceLeDiff, reduceLT, Nat.reduceBEq, reduceIte, hb15])
    rintro v11_0 rfl
    have h := hJ12
    try dsimp only [Out.fin] at h
    refine nz ?_
    refine AW.ts v11_0 (fun hb16 => ?_) (fun hb16 => ?_)
    · have h := ifT hb16 h
      refine AW.op mixed ?_
      refine AW.ret ?_
      obtain ⟨_, h, ho⟩ := outM_some h
      rw [ho, Out.fin_out] at hJ10
      have h := h.trans hJ10
      obtain rfl := Option.some.inj h
      refine nz ?_
      exact .tupL ⟨.aggL ⟨.same _, .same _, .same _, .nil, .nil, .nil, trivial⟩, .same _, trivial⟩
    have h := ifF hb16 h
    refine AW.sk ?_
    exact JoinQ.ar () [0, 1, 2, 3] (Option.some.inj h).symm
  rintro ⟨⟩ rfl
  have h := hJ10
  try dsimp only [Out.fin] at h
  refine nz ?_
  refine AW.op mixed ?_
  apply obindE h; intro x17 hx18 h
  try simp only [go_sem, reduceEqDiff, reduceAdd, reduceSub, reduceMul, reduceLeDiff, reduceLT, Nat.reduceBEq, reduceIte, (idx_some hx18).1, idx_lt hx18, (idx_some hx18).2, accV_idx hx18, accO_idx hx18]
  refine AW.cut [0, 1, 2, 3, 9] [(1, .d (slD i64V p1)), (2, .d (.val (.string p2))), (3, .ptr 0 6 0 0), (6, .ptr 1 6 0 0), (9, .ptr 2 6 0 0), (11, .d (.val (.string r7.1))), (12, .d (.val (.int .i64 r7.2.1))), (14, .ptr 4 6 0 0)] [some ⟨6, [[.d (.val (.int .i64 p0.op)), .d (.val (.string p0.name)), .d (.val (.bool p0.num.neg)), .d (slD u32V p0.num.num), .d (slD u32V p0.num.den), .d (slD NodeA.enc p0.kids)]]⟩, some ⟨6, [[.d (.val (.int .i64 (0 : Int))), .d (.val (.string (⟨#[]⟩ : ByteArray))), .d (.val (.bool false)), .d (.val (.slice none 0 0)), .d (.val (.slice none 0 0)), .d (.val (.slice none 0 0))]]⟩, some ⟨6, [[.d (.val (.int .i64 r4.1.op)), .d (.val (.string r4.1.name)), .d (.val (.bool r4.1.num.neg)), .d (slD u32V r4.1.num.num), .d (slD u32V r4.1.num.den), accV 3 6 ((r4.1.kids.map NodeA.enc).map (·.map .d))]]⟩, accO 6 ((r4.1.kids.map NodeA.enc).map (·.map .d)), some ⟨6, [[.d (.val (.int .i64 x17.op)), .d (.val (.string x17.name)), .d (.val (.bool x17.num.neg)), .d (slD u32V x17.num.num), .d (slD u32V x17.num.den), .d (slD NodeA.enc x17.kids)]]⟩] (by simp only [go_sem, reduceEqDiff, reduceAdd, reduceSub, reduceMul, reduceLeDiff, reduceLT, Nat.reduceBEq, reduceIte, (idx_some hx18).1, idx_lt hx18, (idx_some hx18).2, accV_idx hx18, accO_idx hx18]) ?_
  refine AW.one ?_
  refine obindE h fun oJ20 h hJ20 => ?_
  refine AW.join (S := Unit) (fun _ => [(1, .d (slD i64V p1)), (2, .d (.val (.string p2))), (3, .ptr 0 6 0 0), (6, .ptr 1 6 0 0), (9, .ptr 2 6 0 0), (11, .d (.val (.string r7.1))), (12, .d (.val (.int .i64 r7.2.1))), (14, .ptr 3 6 0 0)]) (fun _ => [some ⟨6, [[.d (.val (.int .i64 p0.op)), .d (.val (.string p0.name)), .d (.val (.bool p0.num.neg)), .d (slD u32V p0.num.num), .d (slD u32V p0.num.den), .d (slD NodeA.enc p0.kids)]]⟩, some ⟨6, [[.d (.val (.int .i64 (0 : Int))), .d (.val (.string (⟨#[]⟩ : ByteArray))), .d (.val (.bool false)), .d (.val (.slice none 0 0)), .d (.val (.slice none 0 0)), .d (.val (.slice none 0 0))]]⟩, some ⟨6, [[.d (.val (.int .i64 r4.1.op)), .d (.val (.string r4.1.name)), .d (.val (.bool r4.1.num.neg)), .d (slD u32V r4.1.num.num), .d (slD u32V r4.1.num.den), accV 4 6 ((r4.1.kids.map NodeA.enc).map (·.map .d))]]⟩, some ⟨6, [[.d (.val (.int .i64 x17.op)), .d (.val (.string x17.name)), .d (.val (.bool x17.num.neg)), .d (slD u32V x17.num.num), .d (slD u32V x17.num.den), .d (slD NodeA.enc x17.kids)]]⟩, accO 6 ((r4.1.kids.map NodeA.enc).map (·.map .d))]) (fun x => oJ20 = .go x) ?_ ?_
  · skip
    refine AW.one ?_
    refine obindE h fun oJ22 h hJ22 => ?_
    refine AW.join (S := Bool) (fun v21_0 => [(1, .d (slD i64V p1)), (2, .d (.val (.string p2))), (3, .ptr 0 6 0 0), (6, .ptr 1 6 0 0), (9, .ptr 2 6 0 0), (11, .d (.val (.string r7.1))), (12, .d (.val (.int .i64 r7.2.1))), (14, .ptr 3 6 0 0), (61, .d (.val (.bool v21_0)))]) (fun v21_0 => [some ⟨6, [[.d (.val (.int .i64 p0.op)), .d (.val (.string p0.name)), .d (.val (.bool p0.num.neg)), .d (slD u32V p0.num.num), .d (slD u32V p0.num.den), .d (slD NodeA.enc p0.kids)]]⟩, some ⟨6, [[.d (.val (.int .i64 (0 : Int))), .d (.val (.string (⟨#[]⟩ : ByteArray))), .d (.val (.bool false)), .d (.val (.slice none 0 0)), .d (.val (.slice none 0 0)), .d (.val (.slice none 0 0))]]⟩, some ⟨6, [[.d (.val (.int .i64 r4.1.op)), .d (.val (.string r4.1.name)), .d (.val (.bool r4.1.num.neg)), .d (slD u32V r4.1.num.num), .d (slD u32V r4.1.num.den), accV 4 6 ((r4.1.kids.map NodeA.enc).map (·.map .d))]]⟩, some ⟨6, [[.d (.val (.int .i64 x17.op)), .d (.val (.string x17.name)), .d (.val (.bool x17.num.neg)), .d (slD u32V x17.num.num), .d (slD u32V x17.num.den), .d (slD NodeA.enc x17.kids)]]⟩, accO 6 ((r4.1.kids.map NodeA.enc).map (·.map .d))]) (fun x => x = oJ22) ?_ ?_
    · skip
      refine AW.rg mixed ?_
      apply obindE h; intro r23 hx24 h
      have hc := nx (rename_renamable_ok (h := hx24))
      refine callP hc ?_
      refine splitK_intro (fun hb25 => ?_) (fun hb25 => ?_)
      · have h := ifT hb25 h
        try simp only [go_sem, reduceEqDiff, reduceAdd, reduceSub, reduceMul, reduceLeDiff, reduceLT, Nat.reduceBEq, reduceIte, hb25]
        refine JoinQ.mk true [0, 1, 2, 4, 3] (Option.some.inj h) (by simp only [go_sem, reduceEqDiff, reduceAdd, reduceSub, reduceMul, reduceLeDiff, reduceLT, Nat.reduceBEq, reduceIte, hb25])
      have h := ifF hb25 h
      try simp only [go_sem, reduceEqDiff, reduceAdd, reduceSub, reduceMul, reduceLeDiff, reduceLT, Nat.reduceBEq, reduceIte, hb25]
      refine JoinQ.mk (r7.1.toList == p2.toList) [0, 1, 2, 4, 3] (Option.some.inj h) (by simp only [go_sem, reduceEqDiff, reduceAdd, reduceSub, reduceMul, reduceLeDiff, reduceLT, Nat.reduceBEq, reduceIte, hb25])
    rintro v21_0 rfl
    have h := hJ22
    try dsimp only [Out.fin] at h
    refine nz ?_
    refine AW.ts v21_0 (fun hb26 => ?_) (fun hb26 => ?_)
    · have h := ifT hb26 h
      refine AW.op mixed ?_
      refine AW.ret ?_
      obtain ⟨_, h, ho⟩ := outM_some h
      rw [ho, Out.fin_out] at hJ20
      have h := h.trans hJ20
      obtain rfl := Option.some.inj h
      refine nz ?_
      exact .tupL ⟨.aggL ⟨.same _, .same _, .same _, .nil, .nil, .nil, trivial⟩, .same _, trivial⟩
    have h := ifF hb26 h
    refine AW.sk ?_
    exact JoinQ.ar () [0, 1, 2, 3, 4] (Option.some.inj h).symm
  rintro ⟨⟩ rfl
  have h := hJ20
  try dsimp only [Out.fin] at h
  refine nz ?_
  refine AW.op mixed ?_
  apply obindE h; intro r27 hx28 h
  have hc := nx (static_FreeOf_ok (h := hx28))
  refine callD hc ?_
  apply obindE h; intro r29 hx30 h
  have hc := nx (static_BoundOf_ok (h := hx30))
  refine callD hc ?_
  refine AW.cu [0, 1, 2, 4, 3, 9, 10] [(1, .d (slD i64V p1)), (2, .d (.val (.string p2))), (3, .ptr 0 6 0 0), (6, .ptr 1 6 0 0), (9, .ptr 2 6 0 0), (11, .d (.val (.string r7.1))), (12, .d (.val (.int .i64 r7.2.1))), (14, .ptr 4 6 0 0), (15, .ptr 5 2 0 0), (16, .ptr 6 2 0 0)] [some ⟨6, [[.d (.val (.int .i64 p0.op)), .d (.val (.string p0.name)), .d (.val (.bool p0.num.neg)), .d (slD u32V p0.num.num), .d (slD u32V p0.num.den), .d (slD NodeA.enc p0.kids)]]⟩, some ⟨6, [[.d (.val (.int .i64 (0 : Int))), .d (.val (.string (⟨#[]⟩ : ByteArray))), .d (.val (.bool false)), .d (.val (.slice none 0 0)), .d (.val (.slice none 0 0)), .d (.val (.slice none 0 0))]]⟩, some ⟨6, [[.d (.val (.int .i64 r4.1.op)), .d (.val (.string r4.1.name)), .d (.val (.bool r4.1.num.neg)), .d (slD u32V r4.1.num.num), .d (slD u32V r4.1.num.den), accV 3 6 ((r4.1.kids.map NodeA.enc).map (·.map .d))]]⟩, accO 6 ((r4.1.kids.map NodeA.enc).map (·.map .d)), some ⟨6, [[.d (.val (.int .i64 x17.op)), .d (.val (.string x17.name)), .d (.val (.bool x17.num.neg)), .d (slD u32V x17.num.num), .d (slD u32V x17.num.den), .d (slD NodeA.enc x17.kids)]]⟩, some ⟨2, [[.d (.val (.bool r27.all)), .d (slD strV r27.list)]]⟩, some ⟨2, [[.d (.val (.bool r29.all)), .d (slD strV r29.list)]]⟩] ?_
  refine AW.one ?_
  refine AW.op mixed ?_
  apply obindE h; intro s31 hx32 h
  try simp only [go_sem, reduceEqDiff, reduceAdd, reduceSub, reduceMul, reduceLeDiff, reduceLT, Nat.reduceBEq, reduceIte, bop_cat (P := Tryz.prog) hx32]
  apply obindE h; intro s33 hx34 h
  try simp only [go_sem, reduceEqDiff, reduceAdd, reduceSub, reduceMul, reduceLeDiff, reduceLT, Nat.reduceBEq, reduceIte, bop_cat (P := Tryz.prog) hx32, bop_cat (P := Tryz.prog) hx34]
  apply obindE h; intro l35 hx36 h
  refine AW.cut [0, 1, 2, 3, 4, 5, 6] [(1, .d (slD i64V p1)), (2, .d (.val (.string p2))), (3, .ptr 0 6 0 0), (6, .ptr 1 6 0 0), (9, .ptr 2 6 0 0), (11, .d (.val (.string r7.1))), (12, .d (.val (.int .i64 r7.2.1))), (14, .ptr 4 6 0 0), (15, .ptr 5 2 0 0), (16, .ptr 6 2 0 0), (72, .d (slD strV l35)), (73, .d (.val (.int .i64 ([p2, s31, s33].length : Int)))), (74, .d (.val (.int .i64 (0 : Int))))] [some ⟨6, [[.d (.val (.int .i64 p0.op)), .d (.val (.string p0.name)), .d (.val (.bool p0.num.neg)), .d (slD u32V p0.num.num), .d (slD u32V p0.num.den), .d (slD NodeA.enc p0.kids)]]⟩, some ⟨6, [[.d (.val (.int .i64 (0 : Int))), .d (.val (.string (⟨#[]⟩ : ByteArray))), .d (.val (.bool false)), .d (.val (.slice none 0 0)), .d (.val (.slice none 0 0)), .d (.val (.slice none 0 0))]]⟩, some ⟨6, [[.d (.val (.int .i64 r4.1.op)), .d (.val (.string r4.1.name)), .d (.val (.bool r4.1.num.neg)), .d (slD u32V r4.1.num.num), .d (slD u32V r4.1.num.den), accV 3 6 ((r4.1.kids.map NodeA.enc).map (·.map .d))]]⟩, accO 6 ((r4.1.kids.map NodeA.enc).map (·.map .d)), some ⟨6, [[.d (.val (.int .i64 x17.op)), .d (.val (.string x17.name)), .d (.val (.bool x17.num.neg)), .d (slD u32V x17.num.num), .d (slD u32V x17.num.den), .d (slD NodeA.enc x17.kids)]]⟩, some ⟨2, [[.d (.val (.bool r27.all)), .d (slD strV r27.list)]]⟩, some ⟨2, [[.d (.val (.bool r29.all)), .d (slD strV r29.list)]]⟩] (by simp only [go_sem, reduceEqDiff, reduceAdd, reduceSub, reduceMul, reduceLeDiff, reduceLT, Nat.reduceBEq, reduceIte, bop_cat (P := Tryz.prog) hx32, bop_cat (P := Tryz.prog) hx34, (Option.some.inj hx36).symm, slD]) ?_
  refine obindE h fun oJ40 h hJ40 => ?_
  refine AW.join (S := Unit) (fun _ => [(1, .d (slD i64V p1)), (2, .d (.val (.string p2))), (3, .ptr 0 6 0 0), (6, .ptr 1 6 0 0), (9, .ptr 2 6 0 0), (11, .d (.val (.string r7.1))), (12, .d (.val (.int .i64 r7.2.1))), (14, .ptr 3 6 0 0)]) (fun _ => [some ⟨6, [[.d (.val (.int .i64 p0.op)), .d (.val (.string p0.name)), .d (.val (.bool p0.num.neg)), .d (slD u32V p0.num.num), .d (slD u32V p0.num.den), .d (slD NodeA.enc p0.kids)]]⟩, some ⟨6, [[.d (.val (.int .i64 (0 : Int))), .d (.val (.string (⟨#[]⟩ : ByteArray))), .d (.val (.bool false)), .d (.val (.slice none 0 0)), .d (.val (.slice none 0 0)), .d (.val (.slice none 0 0))]]⟩, some ⟨6, [[.d (.val (.int .i64 r4.1.op)), .d (.val (.string r4.1.name)), .d (.val (.bool r4.1.num.neg)), .d (slD u32V r4.1.num.num), .d (slD u32V r4.1.num.den), accV 4 6 ((r4.1.kids.map NodeA.enc).map (·.map .d))]]⟩, some ⟨6, [[.d (.val (.int .i64 x17.op)), .d (.val (.string x17.name)), .d (.val (.bool x17.num.neg)), .d (slD u32V x17.num.num), .d (slD u32V x17.num.den), .d (slD NodeA.enc x17.kids)]]⟩, accO 6 ((r4.1.kids.map NodeA.enc).map (·.map .d))]) (fun x => oJ40 = .go x) ?_ ?_
  · refine AW.block ?_
    refine AW.iter (S := Int) (fun i37_0 => [(1, .d (slD i64V p1)), (2, .d (.val (.string p2))), (3, .ptr 0 6 0 0), (6, .ptr 1 6 0 0), (9, .ptr 2 6 0 0), (11, .d (.val (.string r7.1))), (12, .d (.val (.int .i64 r7.2.1))), (14, .ptr 3 6 0 0), (15, .ptr 4 2 0 0), (16, .ptr 5 2 0 0), (72, .d (slD strV l35)), (73, .d (.val (.int .i64 ([p2, s31, s33].length : Int)))), (74, .d (.val (.int .i64 i37_0)))]) (fun i37_0 => [some ⟨6, [[.d (.val (.int .i64 p0.op)), .d (.val (.string p0.name)), .d (.val (.bool p0.num.neg)), .d (slD u32V p0.num.num), .d (slD u32V p0.num.den), .d (slD NodeA.enc p0.kids)]]⟩, some ⟨6, [[.d (.val (.int .i64 (0 : Int))), .d (.val (.string (⟨#[]⟩ : ByteArray))), .d (.val (.bool false)), .d (.val (.slice none 0 0)), .d (.val (.slice none 0 0)), .d (.val (.slice none 0 0))]]⟩, some ⟨6, [[.d (.val (.int .i64 r4.1.op)), .d (.val (.string r4.1.name)), .d (.val (.bool r4.1.num.neg)), .d (slD u32V r4.1.num.num), .d (slD u32V r4.1.num.den), accV 6 6 ((r4.1.kids.map NodeA.enc).map (·.map .d))]]⟩, some ⟨6, [[.d (.val (.int .i64 x17.op)), .d (.val (.string x17.name)), .d (.val (.bool x17.num.neg)), .d (slD u32V x17.num.num), .d (slD u32V x17.num.den), .d (slD NodeA.enc x17.kids)]]⟩, some ⟨2, [[.d (.val (.bool r27.all)), .d (slD strV r27.list)]]⟩, some ⟨2, [[.d (.val (.bool r29.all)), .d (slD strV r29.list)]]⟩, accO 6 ((r4.1.kids.map NodeA.enc).map (·.map .d))]) [0, 1, 2, 4, 5, 6, 3] h (by simp only [go_sem, reduceEqDiff, reduceAdd, reduceSub, reduceMul, reduceLeDiff, reduceLT, Nat.reduceBEq, reduceIte]) ?_
    rintro again i37_0 h
    try dsimp only at h
    refine AW.op mixed ?_
    refine AW.cu [0, 1, 2, 6, 3, 4, 5] [(1, .d (slD i64V p1)), (2, .d (.val (.string p2))), (3, .ptr 0 6 0 0), (6, .ptr 1 6 0 0), (9, .ptr 2 6 0 0), (11, .d (.val (.string r7.1))), (12, .d (.val (.int .i64 r7.2.1))), (14, .ptr 4 6 0 0), (15, .ptr 5 2 0 0), (16, .ptr 6 2 0 0), (72, .d (slD strV l35)), (73, .d (.val (.int .i64 ([p2, s31, s33].length : Int)))), (74, .d (.val (.int .i64 i37_0))), (75, .d (.val (.bool (decide (i37_0 < ([p2, s31, s33].length : Int))))))] [some ⟨6, [[.d (.val (.int .i64 p0.op)), .d (.val (.string p0.name)), .d (.val (.bool p0.num.neg)), .d (slD u32V p0.num.num), .d (slD u32V p0.num.den), .d (slD NodeA.enc p0.kids)]]⟩, some ⟨6, [[.d (.val (.int .i64 (0 : Int))), .d (.val (.string (⟨#[]⟩ : ByteArray))), .d (.val (.bool false)), .d (.val (.slice none 0 0)), .d (.val (.slice none 0 0)), .d (.val (.slice none 0 0))]]⟩, some ⟨6, [[.d (.val (.int .i64 r4.1.op)), .d (.val (.string r4.1.name)), .d (.val (.bool r4.1.num.neg)), .d (slD u32V r4.1.num.num), .d (slD u32V r4.1.num.den), accV 3 6 ((r4.1.kids.map NodeA.enc).map (·.map .d))]]⟩, accO 6 ((r4.1.kids.map NodeA.enc).map (·.map .d)), some ⟨6, [[.d (.val (.int .i64 x17.op)), .d (.val (.string x17.name)), .d (.val (.bool x17.num.neg)), .d (slD u32V x17.num.num), .d (slD u32V x17.num.den), .d (slD NodeA.enc x17.kids)]]⟩, some ⟨2, [[.d (.val (.bool r27.all)), .d (slD strV r27.list)]]⟩, some ⟨2, [[.d (.val (.bool r29.all)), .d (slD strV r29.list)]]⟩] ?_
    refine AW.one ?_
    refine AW.ts (decide (i37_0 < ([p2, s31, s33].length : Int))) (fun hb41 => ?_) (fun hb41 => ?_)
    · have h := ifT hb41 h
      refine AW.sk ?_
      refine AW.cu [0, 1, 2, 3, 4, 5, 6] [(1, .d (slD i64V p1)), (2, .d (.val (.string p2))), (3, .ptr 0 6 0 0), (6, .ptr 1 6 0 0), (9, .ptr 2 6 0 0), (11, .d (.val (.string r7.1))), (12, .d (.val (.int .i64 r7.2.1))), (14, .ptr 4 6 0 0), (15, .ptr 5 2 0 0), (16, .ptr 6 2 0 0), (72, .d (slD strV l35)), (73, .d (.val (.int .i64 ([p2, s31, s33].length : Int)))), (74, .d (.val (.int .i64 i37_0)))] [some ⟨6, [[.d (.val (.int .i64 p0.op)), .d (.val (.string p0.name)), .d (.val (.bool p0.num.neg)), .d (slD u32V p0.num.num), .d (slD u32V p0.num.den), .d (slD NodeA.enc p0.kids)]]⟩, some ⟨6, [[.d (.val (.int .i64 (0 : Int))), .d (.val (.string (⟨#[]⟩ : ByteArray))), .d (.val (.bool false)), .d (.val (.slice none 0 0)), .d (.val (.slice none 0 0)), .d (.val (.slice none 0 0))]]⟩, some ⟨6, [[.d (.val (.int .i64 r4.1.op)), .d (.val (.string r4.1.name)), .d (.val (.bool r4.1.num.neg)), .d (slD u32V r4.1.num.num), .d (slD u32V r4.1.num.den), accV 3 6 ((r4.1.kids.map NodeA.enc).map (·.map .d))]]⟩, accO 6 ((r4.1.kids.map NodeA.enc).map (·.map .d)), some ⟨6, [[.d (.val (.int .i64 x17.op)), .d (.val (.string x17.name)), .d (.val (.bool x17.num.neg)), .d (slD u32V x17.num.num), .d (slD u32V x17.num.den), .d (slD NodeA.enc x17.kids)]]⟩, some ⟨2, [[.d (.val (.bool r27.all)), .d (slD strV r27.list)]]⟩, some ⟨2, [[.d (.val (.bool r29.all)), .d (slD strV r29.list)]]⟩] ?_
      refine AW.one ?_
      refine obindE h fun oJ43 h hJ43 => ?_
      refine AW.join (S := Unit) (fun _ => [(1, .d (slD i64V p1)), (2, .d (.val (.string p2))), (3, .ptr 0 6 0 0), (6, .ptr 1 6 0 0), (9, .ptr 2 6 0 0), (11, .d (.val (.string r7.1))), (12, .d (.val (.int .i64 r7.2.1))), (14, .ptr 3 6 0 0), (15, .ptr 4 2 0 0), (16, .ptr 5 2 0 0), (72, .d (slD strV l35)), (73, .d (.val (.int .i64 ([p2, s31, s33].length : Int)))), (74, .d (.val (.int .i64 i37_0)))]) (fun _ => [some ⟨6, [[.d (.val (.int .i64 p0.op)), .d (.val (.string p0.name)), .d (.val (.bool p0.num.neg)), .d (slD u32V p0.num.num), .d (slD u32V p0.num.den), .d (slD NodeA.enc p0.kids)]]⟩, some ⟨6, [[.d (.val (.int .i64 (0 : Int))), .d (.val (.string (⟨#[]⟩ : ByteArray))), .d (.val (.bool false)), .d (.val (.slice none 0 0)), .d (.val (.slice none 0 0)), .d (.val (.slice none 0 0))]]⟩, some ⟨6, [[.d (.val (.int .i64 r4.1.op)), .d (.val (.string r4.1.name)), .d (.val (.bool r4.1.num.neg)), .d (slD u32V r4.1.num.num), .d (slD u32V r4.1.num.den), accV 6 6 ((r4.1.kids.map NodeA.enc).map (·.map .d))]]⟩, some ⟨6, [[.d (.val (.int .i64 x17.op)), .d (.val (.string x17.name)), .d (.val (.bool x17.num.neg)), .d (slD u32V x17.num.num), .d (slD u32V x17.num.den), .d (slD NodeA.enc x17.kids)]]⟩, some ⟨2, [[.d (.val (.bool r27.all)), .d (slD strV r27.list)]]⟩, some ⟨2, [[.d (.val (.bool r29.all)), .d (slD strV r29.list)]]⟩, accO 6 ((r4.1.kids.map NodeA.enc).map (·.map .d))]) (fun x => oJ43 = .go x) ?_ ?_
      · skip
        refine AW.block ?_
        refine AW.one ?_
        refine AW.reg mixed (by kernel_rfl) ?_
        apply obindE h; intro x44 hx45 h
        try simp only [go_sem, reduceEqDiff, reduceAdd, reduceSub, reduceMul, reduceLeDiff, reduceLT, Nat.reduceBEq, reduceIte, (idx_some hx45).1, (idx_some hx45).2]
        refine AW.cut [0, 1, 2, 3, 4, 5, 6] [(1, .d (slD i64V p1)), (2, .d (.val (.string p2))), (3, .ptr 0 6 0 0), (6, .ptr 1 6 0 0), (9, .ptr 2 6 0 0), (11, .d (.val (.string r7.1))), (12, .d (.val (.int .i64 r7.2.1))), (14, .ptr 4 6 0 0), (15, .ptr 5 2 0 0), (16, .ptr 6 2 0 0), (18, .d (.val (.string x44))), (72, .d (slD strV l35)), (73, .d (.val (.int .i64 ([p2, s31, s33].length : Int)))), (74, .d (.val (.int .i64 i37_0)))] [some ⟨6, [[.d (.val (.int .i64 p0.op)), .d (.val (.string p0.name)), .d (.val (.bool p0.num.neg)), .d (slD u32V p0.num.num), .d (slD u32V p0.num.den), .d (slD NodeA.enc p0.kids)]]⟩, some ⟨6, [[.d (.val (.int .i64 (0 : Int))), .d (.val (.string (⟨#[]⟩ : ByteArray))), .d (.val (.bool false)), .d (.val (.slice none 0 0)), .d (.val (.slice none 0 0)), .d (.val (.slice none 0 0))]]⟩, some ⟨6, [[.d (.val (.int .i64 r4.1.op)), .d (.val (.string r4.1.name)), .d (.val (.bool r4.1.num.neg)), .d (slD u32V r4.1.num.num), .d (slD u32V r4.1.num.den), accV 3 6 ((r4.1.kids.map NodeA.enc).map (·.map .d))]]⟩, accO 6 ((r4.1.kids.map NodeA.enc).map (·.map .d)), some ⟨6, [[.d (.val (.int .i64 x17.op)), .d (.val (.string x17.name)), .d (.val (.bool x17.num.neg)), .d (slD u32V x17.num.num), .d (slD u32V x17.num.den), .d (slD NodeA.enc x17.kids)]]⟩, some ⟨2, [[.d (.val (.bool r27.all)), .d (slD strV r27.list)]]⟩, some ⟨2, [[.d (.val (.bool r29.all)), .d (slD strV r29.list)]]⟩] (by simp only [go_sem, reduceEqDiff, reduceAdd, reduceSub, reduceMul, reduceLeDiff, reduceLT, Nat.reduceBEq, reduceIte, (idx_some hx45).1, (idx_some hx45).2]) ?_
        refine AW.one ?_
        refine obindE h fun oJ47 h hJ47 => ?_
        refine AW.join (S := Bool) (fun v46_0 => [(1, .d (slD i64V p1)), (2, .d (.val (.string p2))), (3, .ptr 0 6 0 0), (6, .ptr 1 6 0 0), (9, .ptr 2 6 0 0), (11, .d (.val (.string r7.1))), (12, .d (.val (.int .i64 r7.2.1))), (14, .ptr 3 6 0 0), (15, .ptr 4 2 0 0), (16, .ptr 5 2 0 0), (72, .d (slD strV l35)), (73, .d (.val (.int .i64 ([p2, s31, s33].length : Int)))), (74, .d (.val (.int .i64 i37_0))), (85, .d (.val (.bool v46_0)))]) (fun v46_0 => [some ⟨6, [[.d (.val (.int .i64 p0.op)), .d (.val (.string p0.name)), .d (.val (.bool p0.num.neg)), .d (slD u32V p0.num.num), .d (slD u32V p0.num.den), .d (slD NodeA.enc p0.kids)]]⟩, some ⟨6, [[.d (.val (.int .i64 (0 : Int))), .d (.val (.string (⟨#[]⟩ : ByteArray))), .d (.val (.bool false)), .d (.val (.slice none 0 0)), .d (.val (.slice none 0 0)), .d (.val (.slice none 0 0))]]⟩, some ⟨6, [[.d (.val (.int .i64 r4.1.op)), .d (.val (.string r4.1.name)), .d (.val (.bool r4.1.num.neg)), .d (slD u32V r4.1.num.num), .d (slD u32V r4.1.num.den), accV 6 6 ((r4.1.kids.map NodeA.enc).map (·.map .d))]]⟩, some ⟨6, [[.d (.val (.int .i64 x17.op)), .d (.val (.string x17.name)), .d (.val (.bool x17.num.neg)), .d (slD u32V x17.num.num), .d (slD u32V x17.num.den), .d (slD NodeA.enc x17.kids)]]⟩, some ⟨2, [[.d (.val (.bool r27.all)), .d (slD strV r27.list)]]⟩, some ⟨2, [[.d (.val (.bool r29.all)), .d (slD strV r29.list)]]⟩, accO 6 ((r4.1.kids.map NodeA.enc).map (·.map .d))]) (fun x => x = oJ47) ?_ ?_
        · skip
          refine AW.rg mixed ?_
          apply obindE h; intro r48 hx49 h
          have hc := nx (static_Has_ok (h := hx49))
          refine callP hc ?_
          refine splitK_intro (fun hb50 => ?_) (fun hb50 => ?_)
          · have h := ifT hb50 h
            try simp only [go_sem, reduceEqDiff, reduceAdd, reduceSub, reduceMul, reduceLeDiff, reduceLT, Nat.reduceBEq, reduceIte, hb50]
            refine JoinQ.mk true [0, 1, 2, 4, 5, 6, 3] (Option.some.inj h) (by simp only [go_sem, reduceEqDiff, reduceAdd, reduceSub, reduceMul, reduceLeDiff, reduceLT, Nat.reduceBEq, reduceIte, hb50])
          have h := ifF hb50 h
          try simp only [go_sem, reduceEqDiff, reduceAdd, reduceSub, reduceMul, reduceLeDiff, reduceLT, Nat.reduceBEq, reduceIte, hb50]
          apply obindE h; intro r51 hx52 h
          have hc := nx (static_Has_ok (h := hx52))
          refine callK_pure hc (by simp only [go_sem, reduceEqDiff, reduceAdd, reduceSub, reduceMul, reduceLeDiff, reduceLT, Nat.reduceBEq, reduceIte]) ?_
          try simp only [go_sem, reduceEqDiff, reduceAdd, reduceSub, reduceMul, reduceLeDiff, reduceLT, Nat.reduceBEq, reduceIte, hb50]
          refine JoinQ.mk r51 [0, 1, 2, 4, 5, 6, 3] (Option.some.inj h) (by simp only [go_sem, reduceEqDiff, reduceAdd, reduceSub, reduceMul, reduceLeDiff, reduceLT, Nat.reduceBEq, reduceIte, hb50])
        rintro v46_0 rfl
        have h := hJ47
        try dsimp only [Out.fin] at h
        refine nz ?_
        refine AW.ts v46_0 (fun hb53 => ?_) (fun hb53 => ?_)
        · have h := ifT hb53 h
          refine AW.op mixed ?_
          refine AW.ret ?_
          obtain ⟨_, h, ho⟩ := outM_some h
          rw [ho, Out.fin_out] at hJ43
          have h := h.trans hJ43
          obtain ⟨_, h, ho⟩ := outM_some h
          rw [ho, Out.fin_out] at hJ40
          have h := h.trans hJ40
          obtain rfl := Option.some.inj h
          refine nz ?_
          exact .tupL ⟨.aggL ⟨.same _, .same _, .same _, .nil, .nil, .nil, trivial⟩, .same _, trivial⟩
        have h := ifF hb53 h
        refine AW.sk ?_
        exact JoinQ.ar () [0, 1, 2, 3, 4, 5, 6] (Option.some.inj h).symm
      rintro ⟨⟩ rfl
      have h := hJ43
      try dsimp only [Out.fin] at h
      refine nz ?_
      refine AW.rg mixed ?_
      exact NextQ.ar (IntKind.wrap .i64 (i37_0 + (1 : Int))) [0, 1, 2, 3, 4, 5, 6] h
    have h := ifF hb41 h
    refine AW.ex ?_
    exact JoinQ.ar () [0, 1, 2, 4, 3] (Option.some.inj h).symm
  rintro ⟨⟩ rfl
  have h := hJ40
  try dsimp only [Out.fin] at h
  refine nz ?_
  refine AW.cu [0, 1, 2, 4, 3] [(1, .d (slD i64V p1)), (2, .d (.val (.string p2))), (3, .ptr 0 6 0 0), (6, .ptr 1 6 0 0), (9, .ptr 2 6 0 0), (11, .d (.val (.string r7.1))), (12, .d (.val (.int .i64 r7.2.1))), (14, .ptr 4 6 0 0)] [some ⟨6, [[.d (.val (.int .i64 p0.op)), .d (.val (.string p0.name)), .d (.val (.bool p0.num.neg)), .d (slD u32V p0.num.num), .d (slD u32V p0.num.den), .d (slD NodeA.enc p0.kids)]]⟩, some ⟨6, [[.d (.val (.int .i64 (0 : Int))), .d (.val (.string (⟨#[]⟩ : ByteArray))), .d (.val (.bool false)), .d (.val (.slice none 0 0)), .d (.val (.slice none 0 0)), .d (.val (.slice none 0 0))]]⟩, some ⟨6, [[.d (.val (.int .i64 r4.1.op)), .d (.val (.string r4.1.name)), .d (.val (.bool r4.1.num.neg)), .d (slD u32V r4.1.num.num), .d (slD u32V r4.1.num.den), accV 3 6 ((r4.1.kids.map NodeA.enc).map (·.map .d))]]⟩, accO 6 ((r4.1.kids.map NodeA.enc).map (·.map .d)), some ⟨6, [[.d (.val (.int .i64 x17.op)), .d (.val (.string x17.name)), .d (.val (.bool x17.num.neg)), .d (slD u32V x17.num.num), .d (slD u32V x17.num.den), .d (slD NodeA.enc x17.kids)]]⟩] ?_
  refine AW.op mixed ?_
  apply obindE h; intro r54 hx55 h
  have hc := nx (rename_uniform_ok (h := hx55))
  refine callD hc ?_
  apply obindE h; intro x56 hx57 h
  try simp only [go_sem, reduceEqDiff, reduceAdd, reduceSub, reduceMul, reduceLeDiff, reduceLT, Nat.reduceBEq, reduceIte, (idx_some hx57).1, idx_lt hx57, (idx_some hx57).2, accV_idx hx57, accO_idx hx57, accV_set hx57, accO_set hx57, List.length_set, (rows_set (l := r4.1.kids) (f := NodeA.enc) (i := r7.2.1.toNat) (v' := r54) (row := [.d (.val (.int .i64 r54.op)), .d (.val (.string r54.name)), .d (.val (.bool r54.num.neg)), .d (slD u32V r54.num.num), .d (slD u32V r54.num.den), .d (slD NodeA.enc r54.kids)]) (by simp only [go_sem, reduceEqDiff, reduceAdd, reduceSub, reduceMul, reduceLeDiff, reduceLT, Nat.reduceBEq, reduceIte]))]
  refine AW.cut [0, 1, 2, 3] [(1, .d (slD i64V p1)), (2, .d (.val (.string p2))), (3, .ptr 0 6 0 0), (6, .ptr 1 6 0 0), (9, .ptr 2 6 0 0), (12, .d (.val (.int .i64 r7.2.1)))] [some ⟨6, [[.d (.val (.int .i64 p0.op)), .d (.val (.string p0.name)), .d (.val (.bool p0.num.neg)), .d (slD u32V p0.num.num), .d (slD u32V p0.num.den), .d (slD NodeA.enc p0.kids)]]⟩, some ⟨6, [[.d (.val (.int .i64 (0 : Int))), .d (.val (.string (⟨#[]⟩ : ByteArray))), .d (.val (.bool false)), .d (.val (.slice none 0 0)), .d (.val (.slice none 0 0)), .d (.val (.slice none 0 0))]]⟩, some ⟨6, [[.d (.val (.int .i64 r4.1.op)), .d (.val (.string r4.1.name)), .d (.val (.bool r4.1.num.neg)), .d (slD u32V r4.1.num.num), .d (slD u32V r4.1.num.den), accV 3 6 (((r4.1.kids.set (r7.2.1.toNat) r54).map NodeA.enc).map (·.map .d))]]⟩, accO 6 (((r4.1.kids.set (r7.2.1.toNat) r54).map NodeA.enc).map (·.map .d))] (by simp only [go_sem, reduceEqDiff, reduceAdd, reduceSub, reduceMul, reduceLeDiff, reduceLT, Nat.reduceBEq, reduceIte, (idx_some hx57).1, idx_lt hx57, (idx_some hx57).2, accV_idx hx57, accO_idx hx57, accV_set hx57, accO_set hx57, List.length_set, (rows_set (l := r4.1.kids) (f := NodeA.enc) (i := r7.2.1.toNat) (v' := r54) (row := [.d (.val (.int .i64 r54.op)), .d (.val (.string r54.name)), .d (.val (.bool r54.num.neg)), .d (slD u32V r54.num.num), .d (slD u32V r54.num.den), .d (slD NodeA.enc r54.kids)]) (by simp only [go_sem, reduceEqDiff, reduceAdd, reduceSub, reduceMul, reduceLeDiff, reduceLT, Nat.reduceBEq, reduceIte]))]) ?_
  refine AW.one ?_
  refine obindE h fun oJ59 h hJ59 => ?_
  refine AW.join (S := ByteArray × (List NodeA)) (fun (v58_0, v58_1) => [(1, .d (slD i64V p1)), (3, .ptr 0 6 0 0), (6, .ptr 1 6 0 0), (9, .ptr 2 6 0 0)]) (fun (v58_0, v58_1) => [some ⟨6, [[.d (.val (.int .i64 p0.op)), .d (.val (.string p0.name)), .d (.val (.bool p0.num.neg)), .d (slD u32V p0.num.num), .d (slD u32V p0.num.den), .d (slD NodeA.enc p0.kids)]]⟩, some ⟨6, [[.d (.val (.int .i64 (0 : Int))), .d (.val (.string (⟨#[]⟩ : ByteArray))), .d (.val (.bool false)), .d (.val (.slice none 0 0)), .d (.val (.slice none 0 0)), .d (.val (.slice none 0 0))]]⟩, some ⟨6, [[.d (.val (.int .i64 r4.1.op)), .d (.val (.string v58_0)), .d (.val (.bool r4.1.num.neg)), .d (slD u32V r4.1.num.num), .d (slD u32V r4.1.num.den), accV 3 6 ((v58_1.map NodeA.enc).map (·.map .d))]]⟩, accO 6 ((v58_1.map NodeA.enc).map (·.map .d))]) (fun x => x = oJ59) ?_ ?_
  · skip
    refine AW.op mixed ?_
    refine AW.cu [0, 1, 2, 3] [(1, .d (slD i64V p1)), (2, .d (.val (.string p2))), (3, .ptr 0 6 0 0), (6, .ptr 1 6 0 0), (9, .ptr 2 6 0 0), (97, .d (.val (.bool (r7.2.1 == (0 : Int)))))] [some ⟨6, [[.d (.val (.int .i64 p0.op)), .d (.val (.string p0.name)), .d (.val (.bool p0.num.neg)), .d (slD u32V p0.num.num), .d (slD u32V p0.num.den), .d (slD NodeA.enc p0.kids)]]⟩, some ⟨6, [[.d (.val (.int .i64 (0 : Int))), .d (.val (.string (⟨#[]⟩ : ByteArray))), .d (.val (.bool false)), .d (.val (.slice none 0 0)), .d (.val (.slice none 0 0)), .d (.val (.slice none 0 0))]]⟩, some ⟨6, [[.d (.val (.int .i64 r4.1.op)), .d (.val (.string r4.1.name)), .d (.val (.bool r4.1.num.neg)), .d (slD u32V r4.1.num.num), .d (slD u32V r4.1.num.den), accV 3 6 (((r4.1.kids.set (r7.2.1.toNat) r54).map NodeA.enc).map (·.map .d))]]⟩, accO 6 (((r4.1.kids.set (r7.2.1.toNat) r54).map NodeA.enc).map (·.map .d))] ?_
    refine AW.ts (r7.2.1 == (0 : Int)) (fun hb60 => ?_) (fun hb60 => ?_)
    · have h := ifT hb60 h
      refine AW.rg mixed ?_
      exact JoinQ.ar (p2, (r4.1.kids.set (r7.2.1.toNat) r54)) [0, 1, 2, 3] (Option.some.inj h)
    have h := ifF hb60 h
    refine AW.rg mixed ?_
    apply obindE h; intro x61 hx62 h
    try simp only [go_sem, reduceEqDiff, reduceAdd, reduceSub, reduceMul, reduceLeDiff, reduceLT, Nat.reduceBEq, reduceIte, (idx_some hx62).1, idx_lt_set hx62, (idx_some hx62).2, accV_idx hx62, accO_idx hx62, accV_set hx62, accO_set hx62, List.length_set, (rows_set (l := (r4.1.kids.set (r7.2.1.toNat) r54)) (f := NodeA.enc) (i := (0 : Int).toNat) (v' := (NodeA.mk x61.op p2 x61.num x61.kids)) (row := [.d (.val (.int .i64 x61.op)), .d (.val (.string p2)), .d (.val (.bool x61.num.neg)), .d (slD u32V x61.num.num), .d (slD u32V x61.num.den), .d (slD NodeA.enc x61.kids)]) (by simp only [go_sem, reduceEqDiff, reduceAdd, reduceSub, reduceMul, reduceLeDiff, reduceLT, Nat.reduceBEq, reduceIte]))]
    refine JoinQ.mk (r4.1.name, ((r4.1.kids.set (r7.2.1.toNat) r54).set ((0 : Int).toNat) (NodeA.mk x61.op p2 x61.num x61.kids))) [0, 1, 2, 3] (Option.some.inj h) (by simp only [go_sem, reduceEqDiff, reduceAdd, reduceSub, reduceMul, reduceLeDiff, reduceLT, Nat.reduceBEq, reduceIte, (idx_some hx62).1, idx_lt_set hx62, (idx_some hx62).2, accV_idx hx62, accO_idx hx62, accV_set hx62, accO_set hx62, List.length_set, (rows_set (l := (r4.1.kids.set (r7.2.1.toNat) r54)) (f := NodeA.enc) (i := (0 : Int).toNat) (v' := (NodeA.mk x61.op p2 x61.num x61.kids)) (row := [.d (.val (.int .i64 x61.op)), .d (.val (.string p2)), .d (.val (.bool x61.num.neg)), .d (slD u32V x61.num.num), .d (slD u32V x61.num.den), .d (slD NodeA.enc x61.kids)]) (by simp only [go_sem, reduceEqDiff, reduceAdd, reduceSub, reduceMul, reduceLeDiff, reduceLT, Nat.reduceBEq, reduceIte]))])
  rintro ⟨v58_0, v58_1⟩ rfl
  have h := hJ59
  try dsimp only [Out.fin] at h
  refine nz ?_
  refine AW.op mixed ?_
  apply obindE h; intro r63 hx64 h
  have hc := nx (tree_Replace_ok (h := hx64))
  refine callK_seal [3] hc ⟨.same _, .same _, .aggL ⟨.same _, .same _, .same _, .same _, .same _, sealAcc (by simp only [go_sem, reduceEqDiff, reduceAdd, reduceSub, reduceMul, reduceLeDiff, reduceLT, Nat.reduceBEq, reduceIte]), trivial⟩, trivial⟩ (by simp only [go_sem, reduceEqDiff, reduceAdd, reduceSub, reduceMul, reduceLeDiff, reduceLT, Nat.reduceBEq, reduceIte]) (by simp only [go_sem, reduceEqDiff, reduceAdd, reduceSub, reduceMul, reduceLeDiff, reduceLT, Nat.reduceBEq, reduceIte]) ?_
  try simp only [go_sem, reduceEqDiff, reduceAdd, reduceSub, reduceMul, reduceLeDiff, reduceLT, Nat.reduceBEq, reduceIte]
  refine AW.ret ?_
  obtain rfl := Option.some.inj h
  refine nz ?_
  exact .same _
/-! ### isochrone/rename.occurs -/
def rename_occurs_body (K : Nat) (self48 : (NodeA × ByteArray) → Option Bool) (p0 : NodeA) (p1 : ByteArray) : Option Bool := if (p0.name.toList == p1.toList) then
    some true
  else
    ((iter (S := Int) (R := Out Unit _) K (fun again i2_0 => 
      if (decide (i2_0 < (p0.kids.length : Int))) then
        (idx p0.kids i2_0).bind fun x7 => 
        (self48 (x7, p1)).bind fun r9 => 
        if r9 then
          outM (
            some true)
        else
          again (IntKind.wrap .i64 (i2_0 + (1 : Int)))
      else
        some (.go ())) (0 : Int)) : Option (Out Unit _)).bind (Out.fin fun _ => 
    some false)
set_option maxHeartbeats 4000000 in
theorem rename_occurs_step (K : Nat) (self48 : (NodeA × ByteArray) → Option Bool) (hself48 : ∀ (q : NodeA × ByteArray) (r : Bool), self48 q = some r → Cn Tryz.prog 48 [aggV q.1.enc, .d (.val (.string q.2))] (.d (.val (.bool r)))) (p0 : NodeA) (p1 : ByteArray) (r : Bool) (h : rename_occurs_body K self48 p0 p1 = some r) : Cn Tryz.prog 48 [aggV p0.enc, .d (.val (.string p1))] (.d (.val (.bool r))) := by
  refine Cn.ofA mixed Tryz.func48 rfl Tryz.call48 Tryz.ntmps48 Tryz.results48 (by simp) (by simp only [go_sem, reduceEqDiff, reduceAdd, reduceSub, reduceMul, reduceLeDiff, reduceLT, Nat.reduceBEq, reduceIte]) fun hfit => ?_
  unfold rename_occurs_body at h
  refine AW.kp [] [0, 1] ?_
  refine AW.op mixed ?_
  refine AW.kp [0] [1, 2] ?_
  refine AW.one ?_
  refine AW.op mixed ?_
  refine AW.kp [0] [1, 2, 10] ?_
  refine AW.ts (p0.name.toList == p1.toList) (fun hb1 => ?_) (fun hb1 => ?_)
  · have h := ifT hb1 h
    refine AW.op mixed ?_
    refine AW.ret ?_
    obtain rfl := Option.some.inj h
    refine nz ?_
    exact .same _
  have h := ifF hb1 h
  refine AW.sk ?_
  refine AW.kp [0] [1, 2] ?_
  refine AW.one ?_
  refine AW.op mixed ?_
  refine AW.kp [] [1, 12, 13, 14] ?_
  refine obindE h fun oJ5 h hJ5 => ?_
  refine AW.join (S := Unit) (fun _ => []) (fun _ => []) (fun x => oJ5 = .go x) ?_ ?_
  · refine AW.block ?_
    refine AW.iter (S := Int) (fun i2_0 => [(1, .d (.val (.string p1))), (12, .d (slD NodeA.enc p0.kids)), (13, .d (.val (.int .i64 (p0.kids.length : Int)))), (14, .d (.val (.int .i64 i2_0)))]) (fun i2_0 => []) [] h (by simp only [go_sem, reduceEqDiff, reduceAdd, reduceSub, reduceMul, reduceLeDiff, reduceLT, Nat.reduceBEq, reduceIte]) ?_
    rintro again i2_0 h
    try dsimp only at h
    refine AW.op mixed ?_
    refine AW.kp [] [1, 12, 13, 14, 15] ?_
    refine AW.one ?_
    refine AW.ts (decide (i2_0 < (p0.kids.length : Int))) (fun hb6 => ?_) (fun hb6 => ?_)
    · have h := ifT hb6 h
      refine AW.sk ?_
      refine AW.kp [] [1, 12, 13, 14] ?_
      refine AW.one ?_
      refine AW.block ?_
      refine AW.one ?_
      refine AW.reg mixed (by kernel_rfl) ?_
      apply obindE h; intro x7 hx8 h
      try simp only [go_sem, reduceEqDiff, reduceAdd, reduceSub, reduceMul, reduceLeDiff, reduceLT, Nat.reduceBEq, reduceIte, (idx_some hx8).1, (idx_some hx8).2]
      refine AW.cut [2] [(1, .d (.val (.string p1))), (6, .ptr 0 6 0 0), (12, .d (slD NodeA.enc p0.kids)), (13, .d (.val (.int .i64 (p0.kids.length : Int)))), (14, .d (.val (.int .i64 i2_0)))] [some ⟨6, [[.d (.val (.int .i64 x7.op)), .d (.val (.string x7.name)), .d (.val (.bool x7.num.neg)), .d (slD u32V x7.num.num), .d (slD u32V x7.num.den), .d (slD NodeA.enc x7.kids)]]⟩] (by simp only [go_sem, reduceEqDiff, reduceAdd, reduceSub, reduceMul, reduceLeDiff, reduceLT, Nat.reduceBEq, reduceIte, (idx_some hx8).1, (idx_some hx8).2]) ?_
      refine AW.op mixed ?_
      apply obindE h; intro r9 hx10 h
      have hc := nx (hself48 _ _ hx10)
      refine callP hc ?_
      refine AW.kp [] [1, 12, 13, 14, 20] ?_
      refine AW.ts r9 (fun hb11 => ?_) (fun hb11 => ?_)
      · have h := ifT hb11 h
        refine AW.op mixed ?_
        refine AW.ret ?_
        obtain ⟨_, h, ho⟩ := outM_some h
        rw [ho, Out.fin_out] at hJ5
        have h := h.trans hJ5
        obtain rfl := Option.some.inj h
        refine nz ?_
        exact .same _
      have h := ifF hb11 h
      refine AW.sk ?_
      refine AW.kp [] [1, 12, 13, 14] ?_
      refine AW.rg mixed ?_
      exact NextQ.ar (IntKind.wrap .i64 (i2_0 + (1 : Int))) [] h
    have h := ifF hb6 h
    refine AW.ex ?_
    exact JoinQ.ar () [] (Option.some.inj h).symm
  rintro ⟨⟩ rfl
  have h := hJ5
  try dsimp only [Out.fin] at h
  refine nz ?_
  refine AW.kp [] [] ?_
  refine AW.op mixed ?_
  refine AW.ret ?_
  obtain rfl := Option.some.inj h
  refine nz ?_
  exact .same _
def rename_occurs (K : Nat) (p0 : NodeA) (p1 : ByteArray) : Option Bool := iter K (fun self q => rename_occurs_body K self q.1 q.2) (p0, p1)
theorem key_rename_occurs {K : Nat} (k : Nat) : (∀ (q : NodeA × ByteArray) (r : Bool), iter k (fun self q => rename_occurs_body K self q.1 q.2) q = some r → Cn Tryz.prog 48 [aggV q.1.enc, .d (.val (.string q.2))] (.d (.val (.bool r)))) := by
  induction k with
  | zero => exact fun q r h => by cases h
  | succ k ih => exact fun q r h => rename_occurs_step K _ ih q.1 q.2 r h
theorem rename_occurs_ok {K : Nat} {p0 : NodeA} {p1 : ByteArray} {r : Bool} (h : rename_occurs K p0 p1 = some r) : Cn Tryz.prog 48 [aggV p0.enc, .d (.val (.string p1))] (.d (.val (.bool r))) := (key_rename_occurs K) (p0, p1) r h
/-! ### isochrone/rename.third -/
def rename_third (K : Nat) (p0 : NodeA) (p1 : NodeA) : Option ByteArray := ((iter (S := Int) (R := Out Unit _) K (fun again i1_0 => 
    ((
      (strconv_Itoa K i1_0).bind fun r7 => 
      (catO (⟨#[122]⟩ : ByteArray) r7).bind fun s9 => 
      ((
        (rename_occurs K p0 s9).bind fun r13 => 
        if (!r13) then
          (rename_occurs K p1 s9).bind fun r16 => 
          some (!r16)
        else
          some false) : Option Bool).bind (fun v11_0 => 
      if v11_0 then
        outM (
          outM (
            some s9))
      else
        some (.go ()))) : Option (Out Unit _)).bind (Out.fin fun _ => 
    again (IntKind.wrap .i64 (i1_0 + (1 : Int))))) (0 : Int)) : Option (Out Unit _)).bind (Out.fin fun _ => 
  none)
set_option maxHeartbeats 4000000 in
theorem rename_third_ok {K : Nat} {p0 : NodeA} {p1 : NodeA} {r : ByteArray} (h : rename_third K p0 p1 = some r) : Cn Tryz.prog 94 [aggV p0.enc, aggV p1.enc] (.d (.val (.string r))) := by
  refine Cn.ofA mixed Tryz.func94 rfl Tryz.call94 Tryz.ntmps94 Tryz.results94 (by simp) (by simp only [go_sem, reduceEqDiff, reduceAdd, reduceSub, reduceMul, reduceLeDiff, reduceLT, Nat.reduceBEq, reduceIte]) fun hfit => ?_
  unfold rename_third at h
  refine AW.kp [] [0, 1] ?_
  refine AW.op mixed ?_
  refine AW.kp [0, 1] [2, 3] ?_
  refine AW.op mixed ?_
  refine AW.kp [0, 1] [2, 3, 5] ?_
  refine obindE h fun oJ4 h hJ4 => ?_
  refine AW.join (S := Unit) (fun _ => []) (fun _ => []) (fun x => oJ4 = .go x) ?_ ?_
  · refine AW.block ?_
    refine AW.iter (S := Int) (fun i1_0 => [(2, .ptr 0 6 0 0), (3, .ptr 1 6 0 0), (5, .d (.val (.int .i64 i1_0)))]) (fun i1_0 => [some ⟨6, [[.d (.val (.int .i64 p0.op)), .d (.val (.string p0.name)), .d (.val (.bool p0.num.neg)), .d (slD u32V p0.num.num), .d (slD u32V p0.num.den), .d (slD NodeA.enc p0.kids)]]⟩, some ⟨6, [[.d (.val (.int .i64 p1.op)), .d (.val (.string p1.name)), .d (.val (.bool p1.num.neg)), .d (slD u32V p1.num.num), .d (slD u32V p1.num.den), .d (slD NodeA.enc p1.kids)]]⟩]) [0, 1] h (by simp only [go_sem, reduceEqDiff, reduceAdd, reduceSub, reduceMul, reduceLeDiff, reduceLT, Nat.reduceBEq, reduceIte]) ?_
    rintro again i1_0 h
    try dsimp only at h
    refine AW.one ?_
    refine obindE h fun oJ6 h hJ6 => ?_
    refine AW.join (S := Unit) (fun _ => [(2, .ptr 0 6 0 0), (3, .ptr 1 6 0 0), (5, .d (.val (.int .i64 i1_0)))]) (fun _ => [some ⟨6, [[.d (.val (.int .i64 p0.op)), .d (.val (.string p0.name)), .d (.val (.bool p0.num.neg)), .d (slD u32V p0.num.num), .d (slD u32V p0.num.den), .d (slD NodeA.enc p0.kids)]]⟩, some ⟨6, [[.d (.val (.int .i64 p1.op)), .d (.val (.string p1.name)), .d (.val (.bool p1.num.neg)), .d (slD u32V p1.num.num), .d (slD u32V p1.num.den), .d (slD NodeA.enc p1.kids)]]⟩]) (fun x => oJ6 = .go x) ?_ ?_
    · skip
      refine AW.block ?_
      refine AW.op mixed ?_
      apply obindE h; intro r7 hx8 h
      have hc := nx (strconv_Itoa_ok (h := hx8))
      refine callP hc ?_
      apply obindE h; intro s9 hx10 h
      try simp only [go_sem, reduceEqDiff, reduceAdd, reduceSub, reduceMul, reduceLeDiff, reduceLT, Nat.reduceBEq, reduceIte, bop_cat (P := Tryz.prog) hx10]
      refine AW.cut [0, 1] [(2, .ptr 0 6 0 0), (3, .ptr 1 6 0 0), (5, .d (.val (.int .i64 i1_0))), (6, .d (.val (.string s9)))] [some ⟨6, [[.d (.val (.int .i64 p0.op)), .d (.val (.string p0.name)), .d (.val (.bool p0.num.neg)), .d (slD u32V p0.num.num), .d (slD u32V p0.num.den), .d (slD NodeA.enc p0.kids)]]⟩, some ⟨6, [[.d (.val (.int .i64 p1.op)), .d (.val (.string p1.name)), .d (.val (.bool p1.num.neg)), .d (slD u32V p1.num.num), .d (slD u32V p1.num.den), .d (slD NodeA.enc p1.kids)]]⟩] (by simp only [go_sem, reduceEqDiff, reduceAdd, reduceSub, reduceMul, reduceLeDiff, reduceLT, Nat.reduceBEq, reduceIte, bop_cat (P := Tryz.prog) hx10]) ?_
      refine AW.one ?_
      refine obindE h fun oJ12 h hJ12 => ?_
      refine AW.join (S := Bool) (fun v11_0 => [(2, .ptr 0 6 0 0), (3, .ptr 1 6 0 0), (5, .d (.val (.int .i64 i1_0))), (6, .d (.val (.string s9))), (21, .d (.val (.bool v11_0)))]) (fun v11_0 => [some ⟨6, [[.d (.val (.int .i64 p0.op)), .d (.val (.string p0.name)), .d (.val (.bool p0.num.neg)), .d (slD u32V p0.num.num), .d (slD u32V p0.num.den), .d (slD NodeA.enc p0.kids)]]⟩, some ⟨6, [[.d (.val (.int .i64 p1.op)), .d (.val (.string p1.name)), .d (.val (.bool p1.num.neg)), .d (slD u32V p1.num.num), .d (slD u32V p1.num.den), .d (slD NodeA.enc p1.kids)]]⟩]) (fun x => x = oJ12) ?_ ?_
      · skip
        refine AW.rg mixed ?_
        apply obindE h; intro r13 hx14 h
        have hc := nx (rename_occurs_ok (h := hx14))
        refine callP hc ?_
        refine splitK_intro (fun hb15 => ?_) (fun hb15 => ?_)
        · have h := ifT hb15 h
          try simp only [go_sem, reduceEqDiff, reduceAdd, reduceSub, reduceMul, reduceLeDiff, reduceLT, Nat.reduceBEq, reduceIte, hb15]
          apply obindE h; intro r16 hx17 h
          have hc := nx (rename_occurs_ok (h := hx17))
          refine callK_pure hc (by simp only [go_sem, reduceEqDiff, reduceAdd, reduceSub, reduceMul, reduceLeDiff, reduceLT, Nat.reduceBEq, reduceIte]) ?_
          try simp only [go_sem, reduceEqDiff, reduceAdd, reduceSub, reduceMul, reduceLeDiff, reduceLT, Nat.reduceBEq, reduceIte, hb15]
          refine JoinQ.mk (!r16) [0, 1] (Option.some.inj h) (by simp only [go_sem, reduceEqDiff, reduceAdd, reduceSub, reduceMul, reduceLeDiff, reduceLT, Nat.reduceBEq, reduceIte, hb15])
        have h := ifF hb15 h
        try simp only [go_sem, reduceEqDiff, reduceAdd, reduceSub, reduceMul, reduceLeDiff, reduceLT, Nat.reduceBEq, reduceIte, hb15]
        refine JoinQ.mk false [0, 1] (Option.some.inj h) (by simp only [go_sem, reduceEqDiff, reduceAdd, reduceSub, reduceMul, reduceLeDiff, reduceLT, Nat.reduceBEq, reduceIte, hb15])
      rintro v11_0 rfl
      have h := hJ12
      try dsimp only [Out.fin] at h
      refine nz ?_
      refine AW.ts v11_0 (fun hb18 => ?_) (fun hb18 => ?_)
      · have h := ifT hb18 h
        refine AW.op mixed ?_
        refine AW.ret ?_
        obtain ⟨_, h, ho⟩ := outM_some h
        rw [ho, Out.fin_out] at hJ6
        have h := h.trans hJ6
        obtain ⟨_, h, ho⟩ := outM_some h
        rw [ho, Out.fin_out] at hJ4
        have h := h.trans hJ4
        obtain rfl := Option.some.inj h
        refine nz ?_
        exact .same _
      have h := ifF hb18 h
      refine AW.sk ?_
      exact JoinQ.ar () [0, 1] (Option.some.inj h).symm
    rintro ⟨⟩ rfl
    have h := hJ6
    try dsimp only [Out.fin] at h
    refine nz ?_
    refine AW.rg mixed ?_
    exact NextQ.ar (IntKind.wrap .i64 (i1_0 + (1 : Int))) [0, 1] h
  rintro ⟨⟩ rfl
  have h := hJ4
  try dsimp only [Out.fin] at h
  refine nz ?_
  cases h
/-! ### isochrone/rename.touches -/
def rename_touches (K : Nat) (p0 : NodeA) (p1 : ByteArray) : Option Bool := (static_FreeOf K p0).bind fun r1 => 
  (static_Has K r1 p1).bind fun r3 => 
  if r3 then
    some true
  else
    (static_BoundOf K p0).bind fun r6 => 
    (static_Has K r6 p1).bind fun r8 => 
    some r8
set_option maxHeartbeats 4000000 in
theorem rename_touches_ok {K : Nat} {p0 : NodeA} {p1 : ByteArray} {r : Bool} (h : rename_touches K p0 p1 = some r) : Cn Tryz.prog 93 [aggV p0.enc, .d (.val (.string p1))] (.d (.val (.bool r))) := by
  refine Cn.ofA mixed Tryz.func93 rfl Tryz.call93 Tryz.ntmps93 Tryz.results93 (by simp) (by simp only [go_sem, reduceEqDiff, reduceAdd, reduceSub, reduceMul, reduceLeDiff, reduceLT, Nat.reduceBEq, reduceIte]) fun hfit => ?_
  unfold rename_touches at h
  refine AW.kp [] [0, 1] ?_
  refine AW.op mixed ?_
  refine AW.kp [0] [1, 2] ?_
  refine AW.op mixed ?_
  apply obindE h; intro r1 hx2 h
  have hc := nx (static_FreeOf_ok (h := hx2))
  refine callP hc ?_
  apply obindE h; intro r3 hx4 h
  have hc := nx (static_Has_ok (h := hx4))
  refine callP hc ?_
  refine splitK_intro (fun hb5 => ?_) (fun hb5 => ?_)
  · have h := ifT hb5 h
    try simp only [go_sem, reduceEqDiff, reduceAdd, reduceSub, reduceMul, reduceLeDiff, reduceLT, Nat.reduceBEq, reduceIte, hb5]
    refine AW.ret ?_
    obtain rfl := Option.some.inj h
    refine nz ?_
    exact .same _
  have h := ifF hb5 h
  try simp only [go_sem, reduceEqDiff, reduceAdd, reduceSub, reduceMul, reduceLeDiff, reduceLT, Nat.reduceBEq, reduceIte, hb5]
  apply obindE h; intro r6 hx7 h
  have hc := nx (static_BoundOf_ok (h := hx7))
  refine callK_pure hc (by simp only [go_sem, reduceEqDiff, reduceAdd, reduceSub, reduceMul, reduceLeDiff, reduceLT, Nat.reduceBEq, reduceIte]) ?_
  try simp only [go_sem, reduceEqDiff, reduceAdd, reduceSub, reduceMul, reduceLeDiff, reduceLT, Nat.reduceBEq, reduceIte, hb5]
  apply obindE h; intro r8 hx9 h
  have hc := nx (static_Has_ok (h := hx9))
  refine callK_pure hc (by simp only [go_sem, reduceEqDiff, reduceAdd, reduceSub, reduceMul, reduceLeDiff, reduceLT, Nat.reduceBEq, reduceIte]) ?_
  try simp only [go_sem, reduceEqDiff, reduceAdd, reduceSub, reduceMul, reduceLeDiff, reduceLT, Nat.reduceBEq, reduceIte, hb5]
  refine AW.ret ?_
  obtain rfl := Option.some.inj h
  refine nz ?_
  exact .same _
/-! ### isochrone/tree.less -/
def tree_less (K : Nat) (p0 : Bool) : Option Int := if p0 then
    some (-1 : Int)
  else
    some (1 : Int)
set_option maxHeartbeats 4000000 in
theorem tree_less_ok {K : Nat} {p0 : Bool} {r : Int} (h : tree_less K p0 = some r) : Cn Tryz.prog 126 [.d (.val (.bool p0))] (.d (.val (.int .i64 r))) := by
  refine Cn.ofA mixed Tryz.func126 rfl Tryz.call126 Tryz.ntmps126 Tryz.results126 (by simp) (by simp only [go_sem, reduceEqDiff, reduceAdd, reduceSub, reduceMul, reduceLeDiff, reduceLT, Nat.reduceBEq, reduceIte]) fun hfit => ?_
  unfold tree_less at h
  refine AW.kp [] [0] ?_
  refine AW.op mixed ?_
  refine AW.kp [] [0] ?_
  refine AW.one ?_
  refine AW.op mixed ?_
  refine AW.kp [] [3] ?_
  refine AW.ts p0 (fun hb1 => ?_) (fun hb1 => ?_)
  · have h := ifT hb1 h
    refine AW.op mixed ?_
    refine AW.ret ?_
    obtain rfl := Option.some.inj h
    refine nz ?_
    exact .same _
  have h := ifF hb1 h
  refine AW.sk ?_
  refine AW.kp [] [] ?_
  refine AW.op mixed ?_
  refine AW.ret ?_
  obtain rfl := Option.some.inj h
  refine nz ?_
  exact .same _
/-! ### isochrone/tree.words -/
def tree_words (K : Nat) (p0 : List Int) (p1 : List Int) : Option Int := if ((p0.length : Int) != (p1.length : Int)) then
    (tree_less K (decide ((p0.length : Int) < (p1.length : Int)))).bind fun r2 => 
    some r2
  else
    ((iter (S := Int) (R := Out Unit _) K (fun again i4_0 => 
      if (decide ((0 : Int) ≤ i4_0)) then
        (idx p0 i4_0).bind fun x9 => 
        (idx p1 i4_0).bind fun x11 => 
        if (x9 != x11) then
          (tree_less K (decide (x9 < x11))).bind fun r14 => 
          outM (
            some r14)
        else
          again (IntKind.wrap .i64 (i4_0 - (1 : Int)))
      else
        some (.go ())) (IntKind.wrap .i64 ((p0.length : Int) - (1 : Int)))) : Option (Out Unit _)).bind (Out.fin fun _ => 
    some (0 : Int))
set_option maxHeartbeats 4000000 in
theorem tree_words_ok {K : Nat} {p0 : List Int} {p1 : List Int} {r : Int} (h : tree_words K p0 p1 = some r) : Cn Tryz.prog 127 [.d (slD u32V p0), .d (slD u32V p1)] (.d (.val (.int .i64 r))) := by
  refine Cn.ofA mixed Tryz.func127 rfl Tryz.call127 Tryz.ntmps127 Tryz.results127 (by simp) (by simp only [go_sem, reduceEqDiff, reduceAdd, reduceSub, reduceMul, reduceLeDiff, reduceLT, Nat.reduceBEq, reduceIte]) fun hfit => ?_
  unfold tree_words at h
  refine AW.kp [] [0, 1] ?_
  refine AW.op mixed ?_
  refine AW.kp [] [0, 1] ?_
  refine AW.one ?_
  refine AW.op mixed ?_
  refine AW.kp [] [0, 1, 10] ?_
  refine AW.ts ((p0.length : Int) != (p1.length : Int)) (fun hb1 => ?_) (fun hb1 => ?_)
  · have h := ifT hb1 h
    refine AW.op mixed ?_
    apply obindE h; intro r2 hx3 h
    have hc := nx (tree_less_ok (h := hx3))
    refine callP hc ?_
    refine AW.ret ?_
    obtain rfl := Option.some.inj h
    refine nz ?_
    exact .same _
  have h := ifF hb1 h
  refine AW.sk ?_
  refine AW.kp [] [0, 1] ?_
  refine AW.one ?_
  refine AW.op mixed ?_
  refine AW.kp [] [0, 1, 5] ?_
  refine obindE h fun oJ7 h hJ7 => ?_
  refine AW.join (S := Unit) (fun _ => []) (fun _ => []) (fun x => oJ7 = .go x) ?_ ?_
  · refine AW.block ?_
    refine AW.iter (S := Int) (fun i4_0 => [(0, .d (slD u32V p0)), (1, .d (slD u32V p1)), (5, .d (.val (.int .i64 i4_0)))]) (fun i4_0 => []) [] h (by simp only [go_sem, reduceEqDiff, reduceAdd, reduceSub, reduceMul, reduceLeDiff, reduceLT, Nat.reduceBEq, reduceIte]) ?_
    rintro again i4_0 h
    try dsimp only at h
    refine AW.one ?_
    refine AW.op mixed ?_
    refine AW.kp [] [0, 1, 5, 21] ?_
    refine AW.ts (decide ((0 : Int) ≤ i4_0)) (fun hb8 => ?_) (fun hb8 => ?_)
    · have h := ifT hb8 h
      refine AW.sk ?_
      refine AW.kp [] [0, 1, 5] ?_
      refine AW.one ?_
      refine AW.block ?_
      refine AW.one ?_
      refine AW.reg mixed (by kernel_rfl) ?_
      apply obindE h; intro x9 hx10 h
      apply obindE h; intro x11 hx12 h
      try simp only [go_sem, reduceEqDiff, reduceAdd, reduceSub, reduceMul, reduceLeDiff, reduceLT, Nat.reduceBEq, reduceIte, (idx_some hx10).1, (idx_some hx10).2, (idx_some hx12).1, (idx_some hx12).2]
      refine AW.cut [] [(0, .d (slD u32V p0)), (1, .d (slD u32V p1)), (5, .d (.val (.int .i64 i4_0))), (32, .d (.val (.bool (x9 != x11))))] [] (by simp only [go_sem, reduceEqDiff, reduceAdd, reduceSub, reduceMul, reduceLeDiff, reduceLT, Nat.reduceBEq, reduceIte, (idx_some hx10).1, (idx_some hx10).2, (idx_some hx12).1, (idx_some hx12).2]) ?_
      refine AW.ts (x9 != x11) (fun hb13 => ?_) (fun hb13 => ?_)
      · have h := ifT hb13 h
        refine AW.one ?_
        refine AW.reg mixed (by kernel_rfl) ?_
        try simp only [go_sem, reduceEqDiff, reduceAdd, reduceSub, reduceMul, reduceLeDiff, reduceLT, Nat.reduceBEq, reduceIte, (idx_some hx10).1, (idx_some hx10).2, (idx_some hx12).1, (idx_some hx12).2]
        apply obindE h; intro r14 hx15 h
        have hc := nx (tree_less_ok (h := hx15))
        refine pcallK_intro hc (by simp only [go_sem, reduceEqDiff, reduceAdd, reduceSub, reduceMul, reduceLeDiff, reduceLT, Nat.reduceBEq, reduceIte]) ?_
        try simp only [go_sem, reduceEqDiff, reduceAdd, reduceSub, reduceMul, reduceLeDiff, reduceLT, Nat.reduceBEq, reduceIte, (idx_some hx10).1, (idx_some hx10).2, (idx_some hx12).1, (idx_some hx12).2]
        refine AW.ret ?_
        obtain ⟨_, h, ho⟩ := outM_some h
        rw [ho, Out.fin_out] at hJ7
        have h := h.trans hJ7
        obtain rfl := Option.some.inj h
        refine nz ?_
        exact .same _
      have h := ifF hb13 h
      refine AW.sk ?_
      refine AW.kp [] [0, 1, 5] ?_
      refine AW.rg mixed ?_
      exact NextQ.ar (IntKind.wrap .i64 (i4_0 - (1 : Int))) [] h
    have h := ifF hb8 h
    refine AW.ex ?_
    exact JoinQ.ar () [] (Option.some.inj h).symm
  rintro ⟨⟩ rfl
  have h := hJ7
  try dsimp only [Out.fin] at h
  refine nz ?_
  refine AW.kp [] [] ?_
  refine AW.op mixed ?_
  refine AW.ret ?_
  obtain rfl := Option.some.inj h
  refine nz ?_
  exact .same _
/-! ### isochrone/tree.Compare -/
def tree_Compare_body (K : Nat) (self112 : (NodeA × NodeA) → Option Int) (p0 : NodeA) (p1 : NodeA) : Option Int := if (p0.op != p1.op) then
    (tree_less K (decide (p0.op < p1.op))).bind fun r2 => 
    some r2
  else
    if (!(p0.name.toList == p1.name.toList)) then
      (tree_less K (Op.bytesLess p0.name.toList p1.name.toList)).bind fun r5 => 
      some r5
    else
      if (!(p0.num.neg == p1.num.neg)) then
        (tree_less K p1.num.neg).bind fun r8 => 
        some r8
      else
        (tree_words K p0.num.num p1.num.num).bind fun r10 => 
        if (r10 != (0 : Int)) then
          some r10
        else
          (tree_words K p0.num.den p1.num.den).bind fun r13 => 
          if (r13 != (0 : Int)) then
            some r13
          else
            if ((p0.kids.length : Int) != (p1.kids.length : Int)) then
              (tree_less K (decide ((p0.kids.length : Int) < (p1.kids.length : Int)))).bind fun r17 => 
              some r17
            else
              ((iter (S := Int) (R := Out Unit _) K (fun again i19_0 => 
                if (decide (i19_0 < (p0.kids.length : Int))) then
                  (idx p0.kids i19_0).bind fun x24 => 
                  (idx p1.kids i19_0).bind fun x26 => 
                  (self112 (x24, x26)).bind fun r28 => 
                  if (r28 != (0 : Int)) then
                    outM (
                      some r28)
                  else
                    again (IntKind.wrap .i64 (i19_0 + (1 : Int)))
                else
                  some (.go ())) (0 : Int)) : Option (Out Unit _)).bind (Out.fin fun _ => 
              some (0 : Int))
set_option maxHeartbeats 4000000 in
theorem tree_Compare_step (K : Nat) (self112 : (NodeA × NodeA) → Option Int) (hself112 : ∀ (q : NodeA × NodeA) (r : Int), self112 q = some r → Cn Tryz.prog 112 [aggV q.1.enc, aggV q.2.enc] (.d (.val (.int .i64 r)))) (p0 : NodeA) (p1 : NodeA) (r : Int) (h : tree_Compare_body K self112 p0 p1 = some r) : Cn Tryz.prog 112 [aggV p0.enc, aggV p1.enc] (.d (.val (.int .i64 r))) := by
  refine Cn.ofA mixed Tryz.func112 rfl Tryz.call112 Tryz.ntmps112 Tryz.results112 (by simp) (by simp only [go_sem, reduceEqDiff, reduceAdd, reduceSub, reduceMul, reduceLeDiff, reduceLT, Nat.reduceBEq, reduceIte]) fun hfit => ?_
  unfold tree_Compare_body at h
  refine AW.kp [] [0, 1] ?_
  refine AW.op mixed ?_
  refine AW.kp [0, 1] [2, 3] ?_
  refine AW.one ?_
  refine AW.block ?_
  refine AW.op mixed ?_
  refine AW.kp [0, 1] [2, 3, 9] ?_
  refine AW.ts (p0.op != p1.op) (fun hb1 => ?_) (fun hb1 => ?_)
  · have h := ifT hb1 h
    refine AW.op mixed ?_
    apply obindE h; intro r2 hx3 h
    have hc := nx (tree_less_ok (h := hx3))
    refine callP hc ?_
    refine AW.ret ?_
    obtain rfl := Option.some.inj h
    refine nz ?_
    exact .same _
  have h := ifF hb1 h
  refine AW.op mixed ?_
  refine AW.kp [0, 1] [2, 3, 21] ?_
  refine AW.ts (!(p0.name.toList == p1.name.toList)) (fun hb4 => ?_) (fun hb4 => ?_)
  · have h := ifT hb4 h
    refine AW.op mixed ?_
    apply obindE h; intro r5 hx6 h
    have hc := nx (tree_less_ok (h := hx6))
    refine callP hc ?_
    refine AW.ret ?_
    obtain rfl := Option.some.inj h
    refine nz ?_
    exact .same _
  have h := ifF hb4 h
  refine AW.op mixed ?_
  refine AW.kp [0, 1] [2, 3, 33] ?_
  refine AW.ts (!(p0.num.neg == p1.num.neg)) (fun hb7 => ?_) (fun hb7 => ?_)
  · have h := ifT hb7 h
    refine AW.op mixed ?_
    apply obindE h; intro r8 hx9 h
    have hc := nx (tree_less_ok (h := hx9))
    refine callP hc ?_
    refine AW.ret ?_
    obtain rfl := Option.some.inj h
    refine nz ?_
    exact .same _
  have h := ifF hb7 h
  refine AW.sk ?_
  refine AW.kp [0, 1] [2, 3] ?_
  refine AW.one ?_
  refine AW.op mixed ?_
  apply obindE h; intro r10 hx11 h
  have hc := nx (tree_words_ok (h := hx11))
  refine callP hc ?_
  refine AW.kp [0, 1] [2, 3, 5] ?_
  refine AW.op mixed ?_
  refine AW.kp [0, 1] [2, 3, 5, 53] ?_
  refine AW.ts (r10 != (0 : Int)) (fun hb12 => ?_) (fun hb12 => ?_)
  · have h := ifT hb12 h
    refine AW.op mixed ?_
    refine AW.ret ?_
    obtain rfl := Option.some.inj h
    refine nz ?_
    exact .same _
  have h := ifF hb12 h
  refine AW.sk ?_
  refine AW.kp [0, 1] [2, 3] ?_
  refine AW.one ?_
  refine AW.op mixed ?_
  apply obindE h; intro r13 hx14 h
  have hc := nx (tree_words_ok (h := hx14))
  refine callP hc ?_
  refine AW.kp [0, 1] [2, 3, 6] ?_
  refine AW.op mixed ?_
  refine AW.kp [0, 1] [2, 3, 6, 63] ?_
  refine AW.ts (r13 != (0 : Int)) (fun hb15 => ?_) (fun hb15 => ?_)
  · have h := ifT hb15 h
    refine AW.op mixed ?_
    refine AW.ret ?_
    obtain rfl := Option.some.inj h
    refine nz ?_
    exact .same _
  have h := ifF hb15 h
  refine AW.sk ?_
  refine AW.kp [0, 1] [2, 3] ?_
  refine AW.one ?_
  refine AW.op mixed ?_
  refine AW.kp [0, 1] [2, 3, 71] ?_
  refine AW.ts ((p0.kids.length : Int) != (p1.kids.length : Int)) (fun hb16 => ?_) (fun hb16 => ?_)
  · have h := ifT hb16 h
    refine AW.op mixed ?_
    apply obindE h; intro r17 hx18 h
    have hc := nx (tree_less_ok (h := hx18))
    refine callP hc ?_
    refine AW.ret ?_
    obtain rfl := Option.some.inj h
    refine nz ?_
    exact .same _
  have h := ifF hb16 h
  refine AW.sk ?_
  refine AW.kp [0, 1] [2, 3] ?_
  refine AW.one ?_
  refine AW.op mixed ?_
  refine AW.kp [0, 1] [2, 3, 82, 83] ?_
  refine obindE h fun oJ22 h hJ22 => ?_
  refine AW.join (S := Unit) (fun _ => []) (fun _ => []) (fun x => oJ22 = .go x) ?_ ?_
  · refine AW.block ?_
    refine AW.iter (S := Int) (fun i19_0 => [(2, .ptr 0 6 0 0), (3, .ptr 1 6 0 0), (82, .d (.val (.int .i64 (p0.kids.length : Int)))), (83, .d (.val (.int .i64 i19_0)))]) (fun i19_0 => [some ⟨6, [[.d (.val (.int .i64 p0.op)), .d (.val (.string p0.name)), .d (.val (.bool p0.num.neg)), .d (slD u32V p0.num.num), .d (slD u32V p0.num.den), .d (slD NodeA.enc p0.kids)]]⟩, some ⟨6, [[.d (.val (.int .i64 p1.op)), .d (.val (.string p1.name)), .d (.val (.bool p1.num.neg)), .d (slD u32V p1.num.num), .d (slD u32V p1.num.den), .d (slD NodeA.enc p1.kids)]]⟩]) [0, 1] h (by simp only [go_sem, reduceEqDiff, reduceAdd, reduceSub, reduceMul, reduceLeDiff, reduceLT, Nat.reduceBEq, reduceIte]) ?_
    rintro again i19_0 h
    try dsimp only at h
    refine AW.op mixed ?_
    refine AW.kp [0, 1] [2, 3, 82, 83, 84] ?_
    refine AW.one ?_
    refine AW.ts (decide (i19_0 < (p0.kids.length : Int))) (fun hb23 => ?_) (fun hb23 => ?_)
    · have h := ifT hb23 h
      refine AW.sk ?_
      refine AW.kp [0, 1] [2, 3, 82, 83] ?_
      refine AW.one ?_
      refine AW.block ?_
      refine AW.op mixed ?_
      refine AW.kp [0, 1] [2, 3, 7, 82, 83] ?_
      refine AW.one ?_
      refine AW.reg mixed (by kernel_rfl) ?_
      apply obindE h; intro x24 hx25 h
      apply obindE h; intro x26 hx27 h
      try simp only [go_sem, reduceEqDiff, reduceAdd, reduceSub, reduceMul, reduceLeDiff, reduceLT, Nat.reduceBEq, reduceIte, (idx_some hx25).1, (idx_some hx25).2, (idx_some hx27).1, (idx_some hx27).2]
      apply obindE h; intro r28 hx29 h
      have hc := nx (hself112 _ _ hx29)
      refine pcallK_intro hc (by simp only [go_sem, reduceEqDiff, reduceAdd, reduceSub, reduceMul, reduceLeDiff, reduceLT, Nat.reduceBEq, reduceIte]) ?_
      try simp only [go_sem, reduceEqDiff, reduceAdd, reduceSub, reduceMul, reduceLeDiff, reduceLT, Nat.reduceBEq, reduceIte, (idx_some hx25).1, (idx_some hx25).2, (idx_some hx27).1, (idx_some hx27).2]
      refine AW.cut [0, 1] [(2, .ptr 0 6 0 0), (3, .ptr 1 6 0 0), (8, .d (.val (.int .i64 r28))), (82, .d (.val (.int .i64 (p0.kids.length : Int)))), (83, .d (.val (.int .i64 i19_0)))] [some ⟨6, [[.d (.val (.int .i64 p0.op)), .d (.val (.string p0.name)), .d (.val (.bool p0.num.neg)), .d (slD u32V p0.num.num), .d (slD u32V p0.num.den), .d (slD NodeA.enc p0.kids)]]⟩, some ⟨6, [[.d (.val (.int .i64 p1.op)), .d (.val (.string p1.name)), .d (.val (.bool p1.num.neg)), .d (slD u32V p1.num.num), .d (slD u32V p1.num.den), .d (slD NodeA.enc p1.kids)]]⟩] (by simp only [go_sem, reduceEqDiff, reduceAdd, reduceSub, reduceMul, reduceLeDiff, reduceLT, Nat.reduceBEq, reduceIte, (idx_some hx25).1, (idx_some hx25).2, (idx_some hx27).1, (idx_some hx27).2]) ?_
      refine AW.op mixed ?_
      refine AW.kp [0, 1] [2, 3, 8, 82, 83, 98] ?_
      refine AW.ts (r28 != (0 : Int)) (fun hb30 => ?_) (fun hb30 => ?_)
      · have h := ifT hb30 h
        refine AW.op mixed ?_
        refine AW.ret ?_
        obtain ⟨_, h, ho⟩ := outM_some h
        rw [ho, Out.fin_out] at hJ22
        have h := h.trans hJ22
        obtain rfl := Option.some.inj h
        refine nz ?_
        exact .same _
      have h := ifF hb30 h
      refine AW.sk ?_
      refine AW.kp [0, 1] [2, 3, 82, 83] ?_
      refine AW.rg mixed ?_
      exact NextQ.ar (IntKind.wrap .i64 (i19_0 + (1 : Int))) [0, 1] h
    have h := ifF hb23 h
    refine AW.ex ?_
    exact JoinQ.ar () [] (Option.some.inj h).symm
  rintro ⟨⟩ rfl
  have h := hJ22
  try dsimp only [Out.fin] at h
  refine nz ?_
  refine AW.kp [] [] ?_
  refine AW.op mixed ?_
  refine AW.ret ?_
  obtain rfl := Option.some.inj h
  refine nz ?_
  exact .same _
def tree_Compare (K : Nat) (p0 : NodeA) (p1 : NodeA) : Option Int := iter K (fun self q => tree_Compare_body K self q.1 q.2) (p0, p1)
theorem key_tree_Compare {K : Nat} (k : Nat) : (∀ (q : NodeA × NodeA) (r : Int), iter k (fun self q => tree_Compare_body K self q.1 q.2) q = some r → Cn Tryz.prog 112 [aggV q.1.enc, aggV q.2.enc] (.d (.val (.int .i64 r)))) := by
  induction k with
  | zero => exact fun q r h => by cases h
  | succ k ih => exact fun q r h => tree_Compare_step K _ ih q.1 q.2 r h
theorem tree_Compare_ok {K : Nat} {p0 : NodeA} {p1 : NodeA} {r : Int} (h : tree_Compare K p0 p1 = some r) : Cn Tryz.prog 112 [aggV p0.enc, aggV p1.enc] (.d (.val (.int .i64 r))) := (key_tree_Compare K) (p0, p1) r h
/-! ### isochrone/tree.Equal -/
def tree_Equal (K : Nat) (p0 : NodeA) (p1 : NodeA) : Option Bool := (tree_Compare K p0 p1).bind fun r1 => 
  some (r1 == (0 : Int))
set_option maxHeartbeats 4000000 in
theorem tree_Equal_ok {K : Nat} {p0 : NodeA} {p1 : NodeA} {r : Bool} (h : tree_Equal K p0 p1 = some r) : Cn Tryz.prog 92 [aggV p0.enc, aggV p1.enc] (.d (.val (.bool r))) := by
  refine Cn.ofA mixed Tryz.func92 rfl Tryz.call92 Tryz.ntmps92 Tryz.results92 (by simp) (by simp only [go_sem, reduceEqDiff, reduceAdd, reduceSub, reduceMul, reduceLeDiff, reduceLT, Nat.reduceBEq, reduceIte]) fun hfit => ?_
  unfold tree_Equal at h
  refine AW.kp [] [0, 1] ?_
  refine AW.op mixed ?_
  refine AW.kp [0, 1] [2, 3] ?_
  refine AW.op mixed ?_
  apply obindE h; intro r1 hx2 h
  have hc := nx (tree_Compare_ok (h := hx2))
  refine callP hc ?_
  refine AW.ret ?_
  obtain rfl := Option.some.inj h
  refine nz ?_
  exact .same _
/-! ### isochrone/rename.same -/
def rename_same_body (K : Nat) (self55 : (NodeA × NodeA) → Option Bool) (p0 : NodeA) (p1 : NodeA) : Option Bool := ((
    ((
      if (p0.op != p1.op) then
        some true
      else
        if ((p0.kids.length : Int) != (p1.kids.length : Int)) then
          some true
        else
          (tree_Equal K (NodeA.mk (0 : Int) (⟨#[]⟩ : ByteArray) p0.num []) (NodeA.mk (0 : Int) (⟨#[]⟩ : ByteArray) p1.num [])).bind fun r7 => 
          some (!r7)) : Option Bool).bind (fun v3_0 => 
    if v3_0 then
      outM (
        some false)
    else
      some (.go ()))) : Option (Out Unit _)).bind (Out.fin fun _ => 
  (rename_binder K p0).bind fun r10 => 
  (rename_binder K p1).bind fun r12 => 
  ((
    ((
      if r10.2.2 then
        if r12.2.2 then
          some (!(r10.1.toList == r12.1.toList))
        else
          some false
      else
        some false) : Option Bool).bind (fun v16_0 => 
    if v16_0 then
      ((
        if (r10.2.1 == (1 : Int)) then
          (idx p0.kids (0 : Int)).bind fun x24 => 
          (idx p1.kids (0 : Int)).bind fun x26 => 
          ((
            if (x24.op != x26.op) then
              some true
            else
              if ((x24.kids.length : Int) != (x26.kids.length : Int)) then
                some true
              else
                if (decide ((0 : Int) < (x24.kids.length : Int))) then
                  (idx x24.kids (0 : Int)).bind fun x33 => 
                  (idx x26.kids (0 : Int)).bind fun x35 => 
                  (self55 (x33, x35)).bind fun r37 => 
                  some (!r37)
                else
                  some false) : Option Bool).bind (fun v28_0 => 
          if v28_0 then
            outM (
              outM (
                some false))
          else
            some (.go ()))
        else
          some (.go ())) : Option (Out Unit _)).bind (Out.fin fun _ => 
      (idx p0.kids r10.2.1).bind fun x40 => 
      (idx p1.kids r10.2.1).bind fun x42 => 
      ((
        ((
          (rename_renamable K x40).bind fun r48 => 
          if (!r48) then
            some true
          else
            (rename_renamable K x42).bind fun r51 => 
            if (!r51) then
              some true
            else
              (catO r10.1 (⟨#[39]⟩ : ByteArray)).bind fun s54 => 
              (rename_touches K x40 s54).bind fun r56 => 
              if r56 then
                some true
              else
                (catO r12.1 (⟨#[39]⟩ : ByteArray)).bind fun s59 => 
                (rename_touches K x42 s59).bind fun r61 => 
                some r61) : Option Bool).bind (fun v46_0 => 
        if v46_0 then
          outM (
            outM (
              some false))
        else
          some (.go ()))) : Option (Out Unit _)).bind (Out.fin fun _ => 
      (rename_third K p0 p1).bind fun r64 => 
      (rename_uniform K x40 r10.1 r64).bind fun r66 => 
      (rename_uniform K x42 r12.1 r64).bind fun r68 => 
      (self55 (r66, r68)).bind fun r70 => 
      outM (
        some r70)))
    else
      some (.go ()))) : Option (Out Unit _)).bind (Out.fin fun _ => 
  if (!(p0.name.toList == p1.name.toList)) then
    some false
  else
    ((iter (S := Int) (R := Out Unit _) K (fun again i73_0 => 
      if (decide (i73_0 < (p0.kids.length : Int))) then
        (idx p0.kids i73_0).bind fun x78 => 
        (idx p1.kids i73_0).bind fun x80 => 
        (self55 (x78, x80)).bind fun r82 => 
        if (!r82) then
          outM (
            some false)
        else
          again (IntKind.wrap .i64 (i73_0 + (1 : Int)))
      else
        some (.go ())) (0 : Int)) : Option (Out Unit _)).bind (Out.fin fun _ => 
    some true)))
set_option maxHeartbeats 4000000 in
theorem rename_same_step (K : Nat) (self55 : (NodeA × NodeA) → Option Bool) (hself55 : ∀ (q : NodeA × NodeA) (r : Bool), self55 q = some r → Cn Tryz.prog 55 [aggV q.1.enc, aggV q.2.enc] (.d (.val (.bool r)))) (p0 : NodeA) (p1 : NodeA) (r : Bool) (h : rename_same_body K self55 p0 p1 = some r) : Cn Tryz.prog 55 [aggV p0.enc, aggV p1.enc] (.d (.val (.bool r))) := by
  refine Cn.ofA mixed Tryz.func55 rfl Tryz.call55 Tryz.ntmps55 Tryz.results55 (by simp) (by simp only [go_sem, reduceEqDiff, reduceAdd, reduceSub, reduceMul, reduceLeDiff, reduceLT, Nat.reduceBEq, reduceIte]) fun hfit => ?_
  unfold rename_same_body at h
  refine AW.kp [] [0, 1] ?_
  refine AW.op mixed ?_
  refine AW.kp [0, 1] [2, 3] ?_
  refine AW.one ?_
  refine obindE h fun oJ2 h hJ2 => ?_
  refine AW.join (S := Unit) (fun _ => [(2, .ptr 0 6 0 0), (3, .ptr 1 6 0 0)]) (fun _ => [some ⟨6, [[.d (.val (.int .i64 p0.op)), .d (.val (.string p0.name)), .d (.val (.bool p0.num.neg)), .d (slD u32V p0.num.num), .d (slD u32V p0.num.den), .d (slD NodeA.enc p0.kids)]]⟩, some ⟨6, [[.d (.val (.int .i64 p1.op)), .d (.val (.string p1.name)), .d (.val (.bool p1.num.neg)), .d (slD u32V p1.num.num), .d (slD u32V p1.num.den), .d (slD NodeA.enc p1.kids)]]⟩]) (fun x => oJ2 = .go x) ?_ ?_
  · skip
    refine AW.one ?_
    refine obindE h fun oJ4 h hJ4 => ?_
    refine AW.join (S := Bool) (fun v3_0 => [(2, .ptr 0 6 0 0), (3, .ptr 1 6 0 0), (40, .d (.val (.bool v3_0)))]) (fun v3_0 => [some ⟨6, [[.d (.val (.int .i64 p0.op)), .d (.val (.string p0.name)), .d (.val (.bool p0.num.neg)), .d (slD u32V p0.num.num), .d (slD u32V p0.num.den), .d (slD NodeA.enc p0.kids)]]⟩, some ⟨6, [[.d (.val (.int .i64 p1.op)), .d (.val (.string p1.name)), .d (.val (.bool p1.num.neg)), .d (slD u32V p1.num.num), .d (slD u32V p1.num.den), .d (slD NodeA.enc p1.kids)]]⟩]) (fun x => x = oJ4) ?_ ?_
    · skip
      refine AW.rg mixed ?_
      refine splitK_intro (fun hb5 => ?_) (fun hb5 => ?_)
      · have h := ifT hb5 h
        try simp only [go_sem, reduceEqDiff, reduceAdd, reduceSub, reduceMul, reduceLeDiff, reduceLT, Nat.reduceBEq, reduceIte, hb5]
        refine JoinQ.mk true [0, 1] (Option.some.inj h) (by simp only [go_sem, reduceEqDiff, reduceAdd, reduceSub, reduceMul, reduceLeDiff, reduceLT, Nat.reduceBEq, reduceIte, hb5])
      have h := ifF hb5 h
      try simp only [go_sem, reduceEqDiff, reduceAdd, reduceSub, reduceMul, reduceLeDiff, reduceLT, Nat.reduceBEq, reduceIte, hb5]
      refine splitK_intro (fun hb6 => ?_) (fun hb6 => ?_)
      · have h := ifT hb6 h
        try simp only [go_sem, reduceEqDiff, reduceAdd, reduceSub, reduceMul, reduceLeDiff, reduceLT, Nat.reduceBEq, reduceIte, hb5, hb6]
        refine JoinQ.mk true [0, 1] (Option.some.inj h) (by simp only [go_sem, reduceEqDiff, reduceAdd, reduceSub, reduceMul, reduceLeDiff, reduceLT, Nat.reduceBEq, reduceIte, hb5, hb6])
      have h := ifF hb6 h
      try simp only [go_sem, reduceEqDiff, reduceAdd, reduceSub, reduceMul, reduceLeDiff, reduceLT, Nat.reduceBEq, reduceIte, hb5, hb6]
      apply obindE h; intro r7 hx8 h
      have hc := nx (tree_Equal_ok (h := hx8))
      refine callK_conv hc ⟨.aggL ⟨.same _, .same _, .same _, .same _, .same _, .nil, trivial⟩, .aggL ⟨.same _, .same _, .same _, .same _, .same _, .nil, trivial⟩, trivial⟩ (by simp only [go_sem, reduceEqDiff, reduceAdd, reduceSub, reduceMul, reduceLeDiff, reduceLT, Nat.reduceBEq, reduceIte]) ?_
      try simp only [go_sem, reduceEqDiff, reduceAdd, reduceSub, reduceMul, reduceLeDiff, reduceLT, Nat.reduceBEq, reduceIte, hb5, hb6]
      refine JoinQ.mk (!r7) [0, 1] (Option.some.inj h) (by simp only [go_sem, reduceEqDiff, reduceAdd, reduceSub, reduceMul, reduceLeDiff, reduceLT, Nat.reduceBEq, reduceIte, hb5, hb6])
    rintro v3_0 rfl
    have h := hJ4
    try dsimp only [Out.fin] at h
    refine nz ?_
    refine AW.ts v3_0 (fun hb9 => ?_) (fun hb9 => ?_)
    · have h := ifT hb9 h
      refine AW.op mixed ?_
      refine AW.ret ?_
      obtain ⟨_, h, ho⟩ := outM_some h
      rw [ho, Out.fin_out] at hJ2
      have h := h.trans hJ2
      obtain rfl := Option.some.inj h
      refine nz ?_
      exact .same _
    have h := ifF hb9 h
    refine AW.sk ?_
    exact JoinQ.ar () [0, 1] (Option.some.inj h).symm
  rintro ⟨⟩ rfl
  have h := hJ2
  try dsimp only [Out.fin] at h
  refine nz ?_
  refine AW.op mixed ?_
  apply obindE h; intro r10 hx11 h
  have hc := nx (rename_binder_ok (h := hx11))
  refine callP hc ?_
  refine AW.kp [0, 1] [2, 3, 5, 6, 7] ?_
  refine AW.op mixed ?_
  apply obindE h; intro r12 hx13 h
  have hc := nx (rename_binder_ok (h := hx13))
  refine callP hc ?_
  refine AW.kp [0, 1] [2, 3, 5, 6, 7, 8, 10] ?_
  refine AW.one ?_
  refine obindE h fun oJ15 h hJ15 => ?_
  refine AW.join (S := Unit) (fun _ => [(2, .ptr 0 6 0 0), (3, .ptr 1 6 0 0)]) (fun _ => [some ⟨6, [[.d (.val (.int .i64 p0.op)), .d (.val (.string p0.name)), .d (.val (.bool p0.num.neg)), .d (slD u32V p0.num.num), .d (slD u32V p0.num.den), .d (slD NodeA.enc p0.kids)]]⟩, some ⟨6, [[.d (.val (.int .i64 p1.op)), .d (.val (.string p1.name)), .d (.val (.bool p1.num.neg)), .d (slD u32V p1.num.num), .d (slD u32V p1.num.den), .d (slD NodeA.enc p1.kids)]]⟩]) (fun x => oJ15 = .go x) ?_ ?_
  · skip
    refine AW.one ?_
    refine obindE h fun oJ17 h hJ17 => ?_
    refine AW.join (S := Bool) (fun v16_0 => [(2, .ptr 0 6 0 0), (3, .ptr 1 6 0 0), (5, .d (.val (.string r10.1))), (6, .d (.val (.int .i64 r10.2.1))), (8, .d (.val (.string r12.1))), (61, .d (.val (.bool v16_0)))]) (fun v16_0 => [some ⟨6, [[.d (.val (.int .i64 p0.op)), .d (.val (.string p0.name)), .d (.val (.bool p0.num.neg)), .d (slD u32V p0.num.num), .d (slD u32V p0.num.den), .d (slD NodeA.enc p0.kids)]]⟩, some ⟨6, [[.d (.val (.int .i64 p1.op)), .d (.val (.string p1.name)), .d (.val (.bool p1.num.neg)), .d (slD u32V p1.num.num), .d (slD u32V p1.num.den), .d (slD NodeA.enc p1.kids)]]⟩]) (fun x => x = oJ17) ?_ ?_
    · skip
      refine AW.rg mixed ?_
      refine splitK_intro (fun hb18 => ?_) (fun hb18 => ?_)
      · have h := ifT hb18 h
        try simp only [go_sem, reduceEqDiff, reduceAdd, reduceSub, reduceMul, reduceLeDiff, reduceLT, Nat.reduceBEq, reduceIte, hb18]
        refine splitK_intro (fun hb19 => ?_) (fun hb19 => ?_)
        · have h := ifT hb19 h
          try simp only [go_sem, reduceEqDiff, reduceAdd, reduceSub, reduceMul, reduceLeDiff, reduceLT, Nat.reduceBEq, reduceIte, hb18, hb19]
          refine JoinQ.mk (!(r10.1.toList == r12.1.toList)) [0, 1] (Option.some.inj h) (by simp only [go_sem, reduceEqDiff, reduceAdd, reduceSub, reduceMul, reduceLeDiff, reduceLT, Nat.reduceBEq, reduceIte, hb18, hb19])
        have h := ifF hb19 h
        try simp only [go_sem, reduceEqDiff, reduceAdd, reduceSub, reduceMul, reduceLeDiff, reduceLT, Nat.reduceBEq, reduceIte, hb18, hb19]
        refine JoinQ.mk false [0, 1] (Option.some.inj h) (by simp only [go_sem, reduceEqDiff, reduceAdd, reduceSub, reduceMul, reduceLeDiff, reduceLT, Nat.reduceBEq, reduceIte, hb18, hb19])
      have h := ifF hb18 h
      try simp only [go_sem, reduceEqDiff, reduceAdd, reduceSub, reduceMul, reduceLeDiff, reduceLT, Nat.reduceBEq, reduceIte, hb18]
      refine JoinQ.mk false [0, 1] (Option.some.inj h) (by simp only [go_sem, reduceEqDiff, reduceAdd, reduceSub, reduceMul, reduceLeDiff, reduceLT, Nat.reduceBEq, reduceIte, hb18])
    rintro v16_0 rfl
    have h := hJ17
    try dsimp only [Out.fin] at h
    refine nz ?_
    refine AW.ts v16_0 (fun hb20 => ?_) (fun hb20 => ?_)
    · have h := ifT hb20 h
      refine AW.one ?_
      refine obindE h fun oJ22 h hJ22 => ?_
      refine AW.join (S := Unit) (fun _ => [(2, .ptr 0 6 0 0), (3, .ptr 1 6 0 0), (5, .d (.val (.string r10.1))), (6, .d (.val (.int .i64 r10.2.1))), (8, .d (.val (.string r12.1)))]) (fun _ => [some ⟨6, [[.d (.val (.int .i64 p0.op)), .d (.val (.string p0.name)), .d (.val (.bool p0.num.neg)), .d (slD u32V p0.num.num), .d (slD u32V p0.num.den), .d (slD NodeA.enc p0.kids)]]⟩, some ⟨6, [[.d (.val (.int .i64 p1.op)), .d (.val (.string p1.name)), .d (.val (.bool p1.num.neg)), .d (slD u32V p1.num.num), .d (slD u32V p1.num.den), .d (slD NodeA.enc p1.kids)]]⟩]) (fun x => oJ22 = .go x) ?_ ?_
      · skip
        refine AW.op mixed ?_
        refine AW.kp [0, 1] [2, 3, 5, 6, 8, 63] ?_
        refine AW.ts (r10.2.1 == (1 : Int)) (fun hb23 => ?_) (fun hb23 => ?_)
        · have h := ifT hb23 h
          refine AW.one ?_
          refine AW.reg mixed (by kernel_rfl) ?_
          apply obindE h; intro x24 hx25 h
          apply obindE h; intro x26 hx27 h
          try simp only [go_sem, reduceEqDiff, reduceAdd, reduceSub, reduceMul, reduceLeDiff, reduceLT, Nat.reduceBEq, reduceIte, (idx_some hx25).1, (idx_some hx25).2, (idx_some hx27).1, (idx_some hx27).2]
          refine AW.cut [0, 1, 10, 11] [(2, .ptr 0 6 0 0), (3, .ptr 1 6 0 0), (5, .d (.val (.string r10.1))), (6, .d (.val (.int .i64 r10.2.1))), (8, .d (.val (.string r12.1))), (11, .ptr 2 6 0 0), (12, .ptr 3 6 0 0)] [some ⟨6, [[.d (.val (.int .i64 p0.op)), .d (.val (.string p0.name)), .d (.val (.bool p0.num.neg)), .d (slD u32V p0.num.num), .d (slD u32V p0.num.den), .d (slD NodeA.enc p0.kids)]]⟩, some ⟨6, [[.d (.val (.int .i64 p1.op)), .d (.val (.string p1.name)), .d (.val (.bool p1.num.neg)), .d (slD u32V p1.num.num), .d (slD u32V p1.num.den), .d (slD NodeA.enc p1.kids)]]⟩, some ⟨6, [[.d (.val (.int .i64 x24.op)), .d (.val (.string x24.name)), .d (.val (.bool x24.num.neg)), .d (slD u32V x24.num.num), .d (slD u32V x24.num.den), .d (slD NodeA.enc x24.kids)]]⟩, some ⟨6, [[.d (.val (.int .i64 x26.op)), .d (.val (.string x26.name)), .d (.val (.bool x26.num.neg)), .d (slD u32V x26.num.num), .d (slD u32V x26.num.den), .d (slD NodeA.enc x26.kids)]]⟩] (by simp only [go_sem, reduceEqDiff, reduceAdd, reduceSub, reduceMul, reduceLeDiff, reduceLT, Nat.reduceBEq, reduceIte, (idx_some hx25).1, (idx_some hx25).2, (idx_some hx27).1, (idx_some hx27).2]) ?_
          refine AW.one ?_
          refine obindE h fun oJ29 h hJ29 => ?_
          refine AW.join (S := Bool) (fun v28_0 => [(2, .ptr 0 6 0 0), (3, .ptr 1 6 0 0), (5, .d (.val (.string r10.1))), (6, .d (.val (.int .i64 r10.2.1))), (8, .d (.val (.string r12.1))), (103, .d (.val (.bool v28_0)))]) (fun v28_0 => [some ⟨6, [[.d (.val (.int .i64 p0.op)), .d (.val (.string p0.name)), .d (.val (.bool p0.num.neg)), .d (slD u32V p0.num.num), .d (slD u32V p0.num.den), .d (slD NodeA.enc p0.kids)]]⟩, some ⟨6, [[.d (.val (.int .i64 p1.op)), .d (.val (.string p1.name)), .d (.val (.bool p1.num.neg)), .d (slD u32V p1.num.num), .d (slD u32V p1.num.den), .d (slD NodeA.enc p1.kids)]]⟩]) (fun x => x = oJ29) ?_ ?_
          · skip
            refine AW.rg mixed ?_
            refine splitK_intro (fun hb30 => ?_) (fun hb30 => ?_)
            · have h := ifT hb30 h
              try simp only [go_sem, reduceEqDiff, reduceAdd, reduceSub, reduceMul, reduceLeDiff, reduceLT, Nat.reduceBEq, reduceIte, hb30]
              refine JoinQ.mk true [0, 1] (Option.some.inj h) (by simp only [go_sem, reduceEqDiff, reduceAdd, reduceSub, reduceMul, reduceLeDiff, reduceLT, Nat.reduceBEq, reduceIte, hb30])
            have h := ifF hb30 h
            try simp only [go_sem, reduceEqDiff, reduceAdd, reduceSub, reduceMul, reduceLeDiff, reduceLT, Nat.reduceBEq, reduceIte, hb30]
            refine splitK_intro (fun hb31 => ?_) (fun hb31 => ?_)
            · have h := ifT hb31 h
              try simp only [go_sem, reduceEqDiff, reduceAdd, reduceSub, reduceMul, reduceLeDiff, reduceLT, Nat.reduceBEq, reduceIte, hb30, hb31]
              refine JoinQ.mk true [0, 1] (Option.some.inj h) (by simp only [go_sem, reduceEqDiff, reduceAdd, reduceSub, reduceMul, reduceLeDiff, reduceLT, Nat.reduceBEq, reduceIte, hb30, hb31])
            have h := ifF hb31 h
            try simp only [go_sem, reduceEqDiff, reduceAdd, reduceSub, reduceMul, reduceLeDiff, reduceLT, Nat.reduceBEq, reduceIte, hb30, hb31]
            refine splitK_intro (fun hb32 => ?_) (fun hb32 => ?_)
            · have h := ifT hb32 h
              apply obindE h; intro x33 hx34 h
              apply obindE h; intro x35 hx36 h
              try simp only [go_sem, reduceEqDiff, reduceAdd, reduceSub, reduceMul, reduceLeDiff, reduceLT, Nat.reduceBEq, reduceIte, hb30, hb31, hb32, (idx_some hx34).1, (idx_some hx34).2, (idx_some hx36).1, (idx_some hx36).2]
              apply obindE h; intro r37 hx38 h
              have hc := nx (hself55 _ _ hx38)
              refine pcallK_intro hc (by simp only [go_sem, reduceEqDiff, reduceAdd, reduceSub, reduceMul, reduceLeDiff, reduceLT, Nat.reduceBEq, reduceIte]) ?_
              try simp only [go_sem, reduceEqDiff, reduceAdd, reduceSub, reduceMul, reduceLeDiff, reduceLT, Nat.reduceBEq, reduceIte, hb30, hb31, hb32, (idx_some hx34).1, (idx_some hx34).2, (idx_some hx36).1, (idx_some hx36).2]
              refine JoinQ.mk (!r37) [0, 1] (Option.some.inj h) (by simp only [go_sem, reduceEqDiff, reduceAdd, reduceSub, reduceMul, reduceLeDiff, reduceLT, Nat.reduceBEq, reduceIte, hb30, hb31, hb32, (idx_some hx34).1, (idx_some hx34).2, (idx_some hx36).1, (idx_some hx36).2])
            have h := ifF hb32 h
            try simp only [go_sem, reduceEqDiff, reduceAdd, reduceSub, reduceMul, reduceLeDiff, reduceLT, Nat.reduceBEq, reduceIte, hb30, hb31, hb32]
            refine JoinQ.mk false [0, 1] (Option.some.inj h) (by simp only [go_sem, reduceEqDiff, reduceAdd, reduceSub, reduceMul, reduceLeDiff, reduceLT, Nat.reduceBEq, reduceIte, hb30, hb31, hb32])
          rintro v28_0 rfl
          have h := hJ29
          try dsimp only [Out.fin] at h
          refine nz ?_
          refine AW.ts v28_0 (fun hb39 => ?_) (fun hb39 => ?_)
          · have h := ifT hb39 h
            refine AW.op mixed ?_
            refine AW.ret ?_
            obtain ⟨_, h, ho⟩ := outM_some h
            rw [ho, Out.fin_out] at hJ22
            have h := h.trans hJ22
            obtain ⟨_, h, ho⟩ := outM_some h
            rw [ho, Out.fin_out] at hJ15
            have h := h.trans hJ15
            obtain rfl := Option.some.inj h
            refine nz ?_
            exact .same _
          have h := ifF hb39 h
          refine AW.sk ?_
          exact JoinQ.ar () [0, 1] (Option.some.inj h).symm
        have h := ifF hb23 h
        refine AW.sk ?_
        exact JoinQ.ar () [0, 1] (Option.some.inj h).symm
      rintro ⟨⟩ rfl
      have h := hJ22
      try dsimp only [Out.fin] at h
      refine nz ?_
      refine AW.one ?_
      refine AW.reg mixed (by kernel_rfl) ?_
      apply obindE h; intro x40 hx41 h
      apply obindE h; intro x42 hx43 h
      try simp only [go_sem, reduceEqDiff, reduceAdd, reduceSub, reduceMul, reduceLeDiff, reduceLT, Nat.reduceBEq, reduceIte, (idx_some hx41).1, (idx_some hx41).2, (idx_some hx43).1, (idx_some hx43).2]
      refine AW.cut [0, 1, 12, 13] [(2, .ptr 0 6 0 0), (3, .ptr 1 6 0 0), (5, .d (.val (.string r10.1))), (8, .d (.val (.string r12.1))), (13, .ptr 2 6 0 0), (14, .ptr 3 6 0 0)] [some ⟨6, [[.d (.val (.int .i64 p0.op)), .d (.val (.string p0.name)), .d (.val (.bool p0.num.neg)), .d (slD u32V p0.num.num), .d (slD u32V p0.num.den), .d (slD NodeA.enc p0.kids)]]⟩, some ⟨6, [[.d (.val (.int .i64 p1.op)), .d (.val (.string p1.name)), .d (.val (.bool p1.num.neg)), .d (slD u32V p1.num.num), .d (slD u32V p1.num.den), .d (slD NodeA.enc p1.kids)]]⟩, some ⟨6, [[.d (.val (.int .i64 x40.op)), .d (.val (.string x40.name)), .d (.val (.bool x40.num.neg)), .d (slD u32V x40.num.num), .d (slD u32V x40.num.den), .d (slD NodeA.enc x40.kids)]]⟩, some ⟨6, [[.d (.val (.int .i64 x42.op)), .d (.val (.string x42.name)), .d (.val (.bool x42.num.neg)), .d (slD u32V x42.num.num), .d (slD u32V x42.num.den), .d (slD NodeA.enc x42.kids)]]⟩] (by simp only [go_sem, reduceEqDiff, reduceAdd, reduceSub, reduceMul, reduceLeDiff, reduceLT, Nat.reduceBEq, reduceIte, (idx_some hx41).1, (idx_some hx41).2, (idx_some hx43).1, (idx_some hx43).2]) ?_
      refine AW.one ?_
      refine obindE h fun oJ45 h hJ45 => ?_
      refine AW.join (S := Unit) (fun _ => [(2, .ptr 0 6 0 0), (3, .ptr 1 6 0 0), (5, .d (.val (.string r10.1))), (8, .d (.val (.string r12.1))), (13, .ptr 2 6 0 0), (14, .ptr 3 6 0 0)]) (fun _ => [some ⟨6, [[.d (.val (.int .i64 p0.op)), .d (.val (.string p0.name)), .d (.val (.bool p0.num.neg)), .d (slD u32V p0.num.num), .d (slD u32V p0.num.den), .d (slD NodeA.enc p0.kids)]]⟩, some ⟨6, [[.d (.val (.int .i64 p1.op)), .d (.val (.string p1.name)), .d (.val (.bool p1.num.neg)), .d (slD u32V p1.num.num), .d (slD u32V p1.num.den), .d (slD NodeA.enc p1.kids)]]⟩, some ⟨6, [[.d (.val (.int .i64 x40.op)), .d (.val (.string x40.name)), .d (.val (.bool x40.num.neg)), .d (slD u32V x40.num.num), .d (slD u32V x40.num.den), .d (slD NodeA.enc x40.kids)]]⟩, some ⟨6, [[.d (.val (.int .i64 x42.op)), .d (.val (.string x42.name)), .d (.val (.bool x42.num.neg)), .d (slD u32V x42.num.num), .d (slD u32V x42.num.den), .d (slD NodeA.enc x42.kids)]]⟩]) (fun x => oJ45 = .go x) ?_ ?_
      · skip
        refine AW.one ?_
        refine obindE h fun oJ47 h hJ47 => ?_
        refine AW.join (S := Bool) (fun v46_0 => [(2, .ptr 0 6 0 0), (3, .ptr 1 6 0 0), (5, .d (.val (.string r10.1))), (8, .d (.val (.string r12.1))), (13, .ptr 2 6 0 0), (14, .ptr 3 6 0 0), (133, .d (.val (.bool v46_0)))]) (fun v46_0 => [some ⟨6, [[.d (.val (.int .i64 p0.op)), .d (.val (.string p0.name)), .d (.val (.bool p0.num.neg)), .d (slD u32V p0.num.num), .d (slD u32V p0.num.den), .d (slD NodeA.enc p0.kids)]]⟩, some ⟨6, [[.d (.val (.int .i64 p1.op)), .d (.val (.string p1.name)), .d (.val (.bool p1.num.neg)), .d (slD u32V p1.num.num), .d (slD u32V p1.num.den), .d (slD NodeA.enc p1.kids)]]⟩, some ⟨6, [[.d (.val (.int .i64 x40.op)), .d (.val (.string x40.name)), .d (.val (.bool x40.num.neg)), .d (slD u32V x40.num.num), .d (slD u32V x40.num.den), .d (slD NodeA.enc x40.kids)]]⟩, some ⟨6, [[.d (.val (.int .i64 x42.op)), .d (.val (.string x42.name)), .d (.val (.bool x42.num.neg)), .d (slD u32V x42.num.num), .d (slD u32V x42.num.den), .d (slD NodeA.enc x42.kids)]]⟩]) (fun x => x = oJ47) ?_ ?_
        · skip
          refine AW.rg mixed ?_
          apply obindE h; intro r48 hx49 h
          have hc := nx (rename_renamable_ok (h := hx49))
          refine callP hc ?_
          refine splitK_intro (fun hb50 => ?_) (fun hb50 => ?_)
          · have h := ifT hb50 h
            try simp only [go_sem, reduceEqDiff, reduceAdd, reduceSub, reduceMul, reduceLeDiff, reduceLT, Nat.reduceBEq, reduceIte, hb50]
            refine JoinQ.mk true [0, 1, 2, 3] (Option.some.inj h) (by simp only [go_sem, reduceEqDiff, reduceAdd, reduceSub, reduceMul, reduceLeDiff, reduceLT, Nat.reduceBEq, reduceIte, hb50])
          have h := ifF hb50 h
          try simp only [go_sem, reduceEqDiff, reduceAdd, reduceSub, reduceMul, reduceLeDiff, reduceLT, Nat.reduceBEq, reduceIte, hb50]
          apply obindE h; intro r51 hx52 h
          have hc := nx (rename_renamable_ok (h := hx52))
          refine callK_pure hc (by simp only [go_sem, reduceEqDiff, reduceAdd, reduceSub, reduceMul, reduceLeDiff, reduceLT, Nat.reduceBEq, reduceIte]) ?_
          try simp only [go_sem, reduceEqDiff, reduceAdd, reduceSub, reduceMul, reduceLeDiff, reduceLT, Nat.reduceBEq, reduceIte, hb50]
          refine splitK_intro (fun hb53 => ?_) (fun hb53 => ?_)
          · have h := ifT hb53 h
            try simp only [go_sem, reduceEqDiff, reduceAdd, reduceSub, reduceMul, reduceLeDiff, reduceLT, Nat.reduceBEq, reduceIte, hb50, hb53]
            refine JoinQ.mk true [0, 1, 2, 3] (Option.some.inj h) (by simp only [go_sem, reduceEqDiff, reduceAdd, reduceSub, reduceMul, reduceLeDiff, reduceLT, Nat.reduceBEq, reduceIte, hb50, hb53])
          have h := ifF hb53 h
          try simp only [go_sem, reduceEqDiff, reduceAdd, reduceSub, reduceMul, reduceLeDiff, reduceLT, Nat.reduceBEq, reduceIte, hb50, hb53]
          apply obindE h; intro s54 hx55 h
          try simp only [go_sem, reduceEqDiff, reduceAdd, reduceSub, reduceMul, reduceLeDiff, reduceLT, Nat.reduceBEq, reduceIte, hb50, hb53, bop_cat (P := Tryz.prog) hx55]
          apply obindE h; intro r56 hx57 h
          have hc := nx (rename_touches_ok (h := hx57))
          refine callK_pure hc (by simp only [go_sem, reduceEqDiff, reduceAdd, reduceSub, reduceMul, reduceLeDiff, reduceLT, Nat.reduceBEq, reduceIte]) ?_
          try simp only [go_sem, reduceEqDiff, reduceAdd, reduceSub, reduceMul, reduceLeDiff, reduceLT, Nat.reduceBEq, reduceIte, hb50, hb53, bop_cat (P := Tryz.prog) hx55]
          refine splitK_intro (fun hb58 => ?_) (fun hb58 => ?_)
          · have h := ifT hb58 h
            try simp only [go_sem, reduceEqDiff, reduceAdd, reduceSub, reduceMul, reduceLeDiff, reduceLT, Nat.reduceBEq, reduceIte, hb50, hb53, bop_cat (P := Tryz.prog) hx55, hb58]
            refine JoinQ.mk true [0, 1, 2, 3] (Option.some.inj h) (by simp only [go_sem, reduceEqDiff, reduceAdd, reduceSub, reduceMul, reduceLeDiff, reduceLT, Nat.reduceBEq, reduceIte, hb50, hb53, bop_cat (P := Tryz.prog) hx55, hb58])
          have h := ifF hb58 h
          try simp only [go_sem, reduceEqDiff, reduceAdd, reduceSub, reduceMul, reduceLeDiff, reduceLT, Nat.reduceBEq, reduceIte, hb50, hb53, bop_cat (P := Tryz.prog) hx55, hb58]
          apply obindE h; intro s59 hx60 h
          try simp only [go_sem, reduceEqDiff, reduceAdd, reduceSub, reduceMul, reduceLeDiff, reduceLT, Nat.reduceBEq, reduceIte, hb50, hb53, bop_cat (P := Tryz.prog) hx55, hb58, bop_cat (P := Tryz.prog) hx60]
          apply obindE h; intro r61 hx62 h
          have hc := nx (rename_touches_ok (h := hx62))
          refine callK_pure hc (by simp only [go_sem, reduceEqDiff, reduceAdd, reduceSub, reduceMul, reduceLeDiff, reduceLT, Nat.reduceBEq, reduceIte]) ?_
          try simp only [go_sem, reduceEqDiff, reduceAdd, reduceSub, reduceMul, reduceLeDiff, reduceLT, Nat.reduceBEq, reduceIte, hb50, hb53, bop_cat (P := Tryz.prog) hx55, hb58, bop_cat (P := Tryz.prog) hx60]
          refine JoinQ.mk r61 [0, 1, 2, 3] (Option.some.inj h) (by simp only [go_sem, reduceEqDiff, reduceAdd, reduceSub, reduceMul, reduceLeDiff, reduceLT, Nat.reduceBEq, reduceIte, hb50, hb53, bop_cat (P := Tryz.prog) hx55, hb58, bop_cat (P := Tryz.prog) hx60])
        rintro v46_0 rfl
        have h := hJ47
        try dsimp only [Out.fin] at h
        refine nz ?_
        refine AW.ts v46_0 (fun hb63 => ?_) (fun hb63 => ?_)
        · have h := ifT hb63 h
          refine AW.op mixed ?_
          refine AW.ret ?_
          obtain ⟨_, h, ho⟩ := outM_some h
          rw [ho, Out.fin_out] at hJ45
          have h := h.trans hJ45
          obtain ⟨_, h, ho⟩ := outM_some h
          rw [ho, Out.fin_out] at hJ15
          have h := h.trans hJ15
          obtain rfl := Option.some.inj h
          refine nz ?_
          exact .same _
        have h := ifF hb63 h
        refine AW.sk ?_
        exact JoinQ.ar () [0, 1, 2, 3] (Option.some.inj h).symm
      rintro ⟨⟩ rfl
      have h := hJ45
      try dsimp only [Out.fin] at h
      refine nz ?_
      refine AW.op mixed ?_
      apply obindE h; intro r64 hx65 h
      have hc := nx (rename_third_ok (h := hx65))
      refine callP hc ?_
      refine AW.kp [2, 3] [5, 8, 13, 14, 15] ?_
      refine AW.op mixed ?_
      apply obindE h; intro r66 hx67 h
      have hc := nx (rename_uniform_ok (h := hx67))
      refine callD hc ?_
      apply obindE h; intro r68 hx69 h
      have hc := nx (rename_uniform_ok (h := hx69))
      refine callD hc ?_
      apply obindE h; intro r70 hx71 h
      have hc := nx (hself55 _ _ hx71)
      refine callD hc ?_
      refine AW.ret ?_
      obtain ⟨_, h, ho⟩ := outM_some h
      rw [ho, Out.fin_out] at hJ15
      have h := h.trans hJ15
      obtain rfl := Option.some.inj h
      refine nz ?_
      exact .same _
    have h := ifF hb20 h
    refine AW.sk ?_
    exact JoinQ.ar () [0, 1] (Option.some.inj h).symm
  rintro ⟨⟩ rfl
  have h := hJ15
  try dsimp only [Out.fin] at h
  refine nz ?_
  refine AW.one ?_
  refine AW.op mixed ?_
  refine AW.kp [0, 1] [2, 3, 150] ?_
  refine AW.ts (!(p0.name.toList == p1.name.toList)) (fun hb72 => ?_) (fun hb72 => ?_)
  · have h := ifT hb72 h
    refine AW.op mixed ?_
    refine AW.ret ?_
    obtain rfl := Option.some.inj h
    refine nz ?_
    exact .same _
  have h := ifF hb72 h
  refine AW.sk ?_
  refine AW.kp [0, 1] [2, 3] ?_
  refine AW.one ?_
  refine AW.op mixed ?_
  refine AW.kp [0, 1] [2, 3, 153, 154] ?_
  refine obindE h fun oJ76 h hJ76 => ?_
  refine AW.join (S := Unit) (fun _ => []) (fun _ => []) (fun x => oJ76 = .go x) ?_ ?_
  · refine AW.block ?_
    refine AW.iter (S := Int) (fun i73_0 => [(2, .ptr 0 6 0 0), (3, .ptr 1 6 0 0), (153, .d (.val (.int .i64 (p0.kids.length : Int)))), (154, .d (.val (.int .i64 i73_0)))]) (fun i73_0 => [some ⟨6, [[.d (.val (.int .i64 p0.op)), .d (.val (.string p0.name)), .d (.val (.bool p0.num.neg)), .d (slD u32V p0.num.num), .d (slD u32V p0.num.den), .d (slD NodeA.enc p0.kids)]]⟩, some ⟨6, [[.d (.val (.int .i64 p1.op)), .d (.val (.string p1.name)), .d (.val (.bool p1.num.neg)), .d (slD u32V p1.num.num), .d (slD u32V p1.num.den), .d (slD NodeA.enc p1.kids)]]⟩]) [0, 1] h (by simp only [go_sem, reduceEqDiff, reduceAdd, reduceSub, reduceMul, reduceLeDiff, reduceLT, Nat.reduceBEq, reduceIte]) ?_
    rintro again i73_0 h
    try dsimp only at h
    refine AW.op mixed ?_
    refine AW.kp [0, 1] [2, 3, 153, 154, 155] ?_
    refine AW.one ?_
    refine AW.ts (decide (i73_0 < (p0.kids.length : Int))) (fun hb77 => ?_) (fun hb77 => ?_)
    · have h := ifT hb77 h
      refine AW.sk ?_
      refine AW.kp [0, 1] [2, 3, 153, 154] ?_
      refine AW.one ?_
      refine AW.block ?_
      refine AW.op mixed ?_
      refine AW.kp [0, 1] [2, 3, 16, 153, 154] ?_
      refine AW.one ?_
      refine AW.reg mixed (by kernel_rfl) ?_
      apply obindE h; intro x78 hx79 h
      apply obindE h; intro x80 hx81 h
      try simp only [go_sem, reduceEqDiff, reduceAdd, reduceSub, reduceMul, reduceLeDiff, reduceLT, Nat.reduceBEq, reduceIte, (idx_some hx79).1, (idx_some hx79).2, (idx_some hx81).1, (idx_some hx81).2]
      apply obindE h; intro r82 hx83 h
      have hc := nx (hself55 _ _ hx83)
      refine pcallK_intro hc (by simp only [go_sem, reduceEqDiff, reduceAdd, reduceSub, reduceMul, reduceLeDiff, reduceLT, Nat.reduceBEq, reduceIte]) ?_
      try simp only [go_sem, reduceEqDiff, reduceAdd, reduceSub, reduceMul, reduceLeDiff, reduceLT, Nat.reduceBEq, reduceIte, (idx_some hx79).1, (idx_some hx79).2, (idx_some hx81).1, (idx_some hx81).2]
      refine AW.cut [0, 1] [(2, .ptr 0 6 0 0), (3, .ptr 1 6 0 0), (153, .d (.val (.int .i64 (p0.kids.length : Int)))), (154, .d (.val (.int .i64 i73_0))), (168, .d (.val (.bool (!r82))))] [some ⟨6, [[.d (.val (.int .i64 p0.op)), .d (.val (.string p0.name)), .d (.val (.bool p0.num.neg)), .d (slD u32V p0.num.num), .d (slD u32V p0.num.den), .d (slD NodeA.enc p0.kids)]]⟩, some ⟨6, [[.d (.val (.int .i64 p1.op)), .d (.val (.string p1.name)), .d (.val (.bool p1.num.neg)), .d (slD u32V p1.num.num), .d (slD u32V p1.num.den), .d (slD NodeA.enc p1.kids)]]⟩] (by simp only [go_sem, reduceEqDiff, reduceAdd, reduceSub, reduceMul, reduceLeDiff, reduceLT, Nat.reduceBEq, reduceIte, (idx_some hx79).1, (idx_some hx79).2, (idx_some hx81).1, (idx_some hx81).2]) ?_
      refine AW.ts (!r82) (fun hb84 => ?_) (fun hb84 => ?_)
      · have h := ifT hb84 h
        refine AW.op mixed ?_
        refine AW.ret ?_
        obtain ⟨_, h, ho⟩ := outM_some h
        rw [ho, Out.fin_out] at hJ76
        have h := h.trans hJ76
        obtain rfl := Option.some.inj h
        refine nz ?_
        exact .same _
      have h := ifF hb84 h
      refine AW.sk ?_
      refine AW.kp [0, 1] [2, 3, 153, 154] ?_
      refine AW.rg mixed ?_
      exact NextQ.ar (IntKind.wrap .i64 (i73_0 + (1 : Int))) [0, 1] h
    have h := ifF hb77 h
    refine AW.ex ?_
    exact JoinQ.ar () [] (Option.some.inj h).symm
  rintro ⟨⟩ rfl
  have h := hJ76
  try dsimp only [Out.fin] at h
  refine nz ?_
  refine AW.kp [] [] ?_
  refine AW.op mixed ?_
  refine AW.ret ?_
  obtain rfl := Option.some.inj h
  refine nz ?_
  exact .same _
def rename_same (K : Nat) (p0 : NodeA) (p1 : NodeA) : Option Bool := iter K (fun self q => rename_same_body K self q.1 q.2) (p0, p1)
theorem key_rename_same {K : Nat} (k : Nat) : (∀ (q : NodeA × NodeA) (r : Bool), iter k (fun self q => rename_same_body K self q.1 q.2) q = some r → Cn Tryz.prog 55 [aggV q.1.enc, aggV q.2.enc] (.d (.val (.bool r)))) := by
  induction k with
  | zero => exact fun q r h => by cases h
  | succ k ih => exact fun q r h => rename_same_step K _ ih q.1 q.2 r h
theorem rename_same_ok {K : Nat} {p0 : NodeA} {p1 : NodeA} {r : Bool} (h : rename_same K p0 p1 = some r) : Cn Tryz.prog 55 [aggV p0.enc, aggV p1.enc] (.d (.val (.bool r))) := (key_rename_same K) (p0, p1) r h
/-! ### isochrone/rename.Same -/
def rename_Same (K : Nat) (p0 : NodeA) (p1 : NodeA) : Option (Bool × Int) := (tree_Sort K p0.op).bind fun r1 => 
  (rename_check K p0).bind fun r3 => 
  if (r3 != (0 : Int)) then
    some (false, r3)
  else
    ((
      (tree_Sort K p1.op).bind fun r8 => 
      ((
        if (r8 == (0 : Int)) then
          some true
        else
          some (r8 == (4 : Int))) : Option Bool).bind (fun v10_0 => 
      if v10_0 then
        outM (
          some (false, (80 : Int)))
      else
        (tree_Check K p1 r8).bind fun r14 => 
        if (r14 != (0 : Int)) then
          outM (
            some (false, r14))
        else
          if (r8 != r1) then
            outM (
              some (false, (0 : Int)))
          else
            some (.go ()))) : Option (Out Unit _)).bind (Out.fin fun _ => 
    (rename_same K p0 p1).bind fun r18 => 
    some (r18, (0 : Int)))
set_option maxHeartbeats 4000000 in
theorem rename_Same_ok {K : Nat} {p0 : NodeA} {p1 : NodeA} {r : Bool × Int} (h : rename_Same K p0 p1 = some r) : Cn Tryz.prog 22 [aggV p0.enc, aggV p1.enc] (.tup [.d (.val (.bool r.1)), .d (.val (.int .i64 r.2))]) := by
  refine Cn.ofA mixed Tryz.func22 rfl Tryz.call22 Tryz.ntmps22 Tryz.results22 (by simp) (by simp only [go_sem, reduceEqDiff, reduceAdd, reduceSub, reduceMul, reduceLeDiff, reduceLT, Nat.reduceBEq, reduceIte]) fun hfit => ?_
  unfold rename_Same at h
  refine AW.kp [] [0, 1] ?_
  refine AW.op mixed ?_
  refine AW.kp [0, 1] [2, 3] ?_
  refine AW.op mixed ?_
  apply obindE h; intro r1 hx2 h
  have hc := nx (tree_Sort_ok (h := hx2))
  refine callP hc ?_
  refine AW.kp [0, 1] [2, 3, 6] ?_
  refine AW.one ?_
  refine AW.op mixed ?_
  apply obindE h; intro r3 hx4 h
  have hc := nx (rename_check_ok (h := hx4))
  refine callP hc ?_
  refine AW.kp [0, 1] [2, 3, 6, 7] ?_
  refine AW.op mixed ?_
  refine AW.kp [0, 1] [2, 3, 6, 7, 16] ?_
  refine AW.ts (r3 != (0 : Int)) (fun hb5 => ?_) (fun hb5 => ?_)
  · have h := ifT hb5 h
    refine AW.op mixed ?_
    refine AW.ret ?_
    obtain rfl := Option.some.inj h
    refine nz ?_
    exact .same _
  have h := ifF hb5 h
  refine AW.sk ?_
  refine AW.kp [0, 1] [2, 3, 6] ?_
  refine AW.one ?_
  refine obindE h fun oJ7 h hJ7 => ?_
  refine AW.join (S := Unit) (fun _ => [(2, .ptr 0 6 0 0), (3, .ptr 1 6 0 0)]) (fun _ => [some ⟨6, [[.d (.val (.int .i64 p0.op)), .d (.val (.string p0.name)), .d (.val (.bool p0.num.neg)), .d (slD u32V p0.num.num), .d (slD u32V p0.num.den), .d (slD NodeA.enc p0.kids)]]⟩, some ⟨6, [[.d (.val (.int .i64 p1.op)), .d (.val (.string p1.name)), .d (.val (.bool p1.num.neg)), .d (slD u32V p1.num.num), .d (slD u32V p1.num.den), .d (slD NodeA.enc p1.kids)]]⟩]) (fun x => oJ7 = .go x) ?_ ?_
  · skip
    refine AW.op mixed ?_
    apply obindE h; intro r8 hx9 h
    have hc := nx (tree_Sort_ok (h := hx9))
    refine callP hc ?_
    refine AW.kp [0, 1] [2, 3, 6, 8] ?_
    refine AW.one ?_
    refine obindE h fun oJ11 h hJ11 => ?_
    refine AW.join (S := Bool) (fun v10_0 => [(2, .ptr 0 6 0 0), (3, .ptr 1 6 0 0), (6, .d (.val (.int .i64 r1))), (8, .d (.val (.int .i64 r8))), (26, .d (.val (.bool v10_0)))]) (fun v10_0 => [some ⟨6, [[.d (.val (.int .i64 p0.op)), .d (.val (.string p0.name)), .d (.val (.bool p0.num.neg)), .d (slD u32V p0.num.num), .d (slD u32V p0.num.den), .d (slD NodeA.enc p0.kids)]]⟩, some ⟨6, [[.d (.val (.int .i64 p1.op)), .d (.val (.string p1.name)), .d (.val (.bool p1.num.neg)), .d (slD u32V p1.num.num), .d (slD u32V p1.num.den), .d (slD NodeA.enc p1.kids)]]⟩]) (fun x => x = oJ11) ?_ ?_
    · skip
      refine AW.rg mixed ?_
      refine splitK_intro (fun hb12 => ?_) (fun hb12 => ?_)
      · have h := ifT hb12 h
        try simp only [go_sem, reduceEqDiff, reduceAdd, reduceSub, reduceMul, reduceLeDiff, reduceLT, Nat.reduceBEq, reduceIte, hb12]
        refine JoinQ.mk true [0, 1] (Option.some.inj h) (by simp only [go_sem, reduceEqDiff, reduceAdd, reduceSub, reduceMul, reduceLeDiff, reduceLT, Nat.reduceBEq, reduceIte, hb12])
      have h := ifF hb12 h
      try simp only [go_sem, reduceEqDiff, reduceAdd, reduceSub, reduceMul, reduceLeDiff, reduceLT, Nat.reduceBEq, reduceIte, hb12]
      refine JoinQ.mk (r8 == (4 : Int)) [0, 1] (Option.some.inj h) (by simp only [go_sem, reduceEqDiff, reduceAdd, reduceSub, reduceMul, reduceLeDiff, reduceLT, Nat.reduceBEq, reduceIte, hb12])
    rintro v10_0 rfl
    have h := hJ11
    try dsimp only [Out.fin] at h
    refine nz ?_
    refine AW.ts v10_0 (fun hb13 => ?_) (fun hb13 => ?_)
    · have h := ifT hb13 h
      refine AW.op mixed ?_
      refine AW.ret ?_
      obtain ⟨_, h, ho⟩ := outM_some h
      rw [ho, Out.fin_out] at hJ7
      have h := h.trans hJ7
      obtain rfl := Option.some.inj h
      refine nz ?_
      exact .same _
    have h := ifF hb13 h
    refine AW.op mixed ?_
    apply obindE h; intro r14 hx15 h
    have hc := nx (tree_Check_ok (h := hx15))
    refine callP hc ?_
    refine AW.kp [0, 1] [2, 3, 6, 8, 9] ?_
    refine AW.op mixed ?_
    refine AW.kp [0, 1] [2, 3, 6, 8, 9, 31] ?_
    refine AW.ts (r14 != (0 : Int)) (fun hb16 => ?_) (fun hb16 => ?_)
    · have h := ifT hb16 h
      refine AW.op mixed ?_
      refine AW.ret ?_
      obtain ⟨_, h, ho⟩ := outM_some h
      rw [ho, Out.fin_out] at hJ7
      have h := h.trans hJ7
      obtain rfl := Option.some.inj h
      refine nz ?_
      exact .same _
    have h := ifF hb16 h
    refine AW.op mixed ?_
    refine AW.kp [0, 1] [2, 3, 35] ?_
    refine AW.ts (r8 != r1) (fun hb17 => ?_) (fun hb17 => ?_)
    · have h := ifT hb17 h
      refine AW.op mixed ?_
      refine AW.ret ?_
      obtain ⟨_, h, ho⟩ := outM_some h
      rw [ho, Out.fin_out] at hJ7
      have h := h.trans hJ7
      obtain rfl := Option.some.inj h
      refine nz ?_
      exact .same _
    have h := ifF hb17 h
    refine AW.sk ?_
    exact JoinQ.ar () [0, 1] (Option.some.inj h).symm
  rintro ⟨⟩ rfl
  have h := hJ7
  try dsimp only [Out.fin] at h
  refine nz ?_
  refine AW.op mixed ?_
  apply obindE h; intro r18 hx19 h
  have hc := nx (rename_same_ok (h := hx19))
  refine callP hc ?_
  refine AW.ret ?_
  obtain rfl := Option.some.inj h
  refine nz ?_
  exact .same _
/-! ### isochrone/isochronelaw18.awake -/
def law18_awake (K : Nat)  : Option Bool := (rename_Bound K (NodeA.mk (33 : Int) (⟨#[120]⟩ : ByteArray) (RatA.mk false [] []) [(NodeA.mk (22 : Int) (⟨#[]⟩ : ByteArray) (RatA.mk false [] []) [(NodeA.mk (2 : Int) (⟨#[120]⟩ : ByteArray) (RatA.mk false [] []) []), (NodeA.mk (2 : Int) (⟨#[122]⟩ : ByteArray) (RatA.mk false [] []) [])])]) [] (⟨#[121]⟩ : ByteArray)).bind fun r1 => 
  (rename_Same K (NodeA.mk (33 : Int) (⟨#[120]⟩ : ByteArray) (RatA.mk false [] []) [(NodeA.mk (22 : Int) (⟨#[]⟩ : ByteArray) (RatA.mk false [] []) [(NodeA.mk (2 : Int) (⟨#[120]⟩ : ByteArray) (RatA.mk false [] []) []), (NodeA.mk (2 : Int) (⟨#[122]⟩ : ByteArray) (RatA.mk false [] []) [])])]) (NodeA.mk (33 : Int) (⟨#[121]⟩ : ByteArray) (RatA.mk false [] []) [(NodeA.mk (22 : Int) (⟨#[]⟩ : ByteArray) (RatA.mk false [] []) [(NodeA.mk (2 : Int) (⟨#[121]⟩ : ByteArray) (RatA.mk false [] []) []), (NodeA.mk (2 : Int) (⟨#[122]⟩ : ByteArray) (RatA.mk false [] []) [])])])).bind fun r3 => 
  (rename_Bound K (NodeA.mk (33 : Int) (⟨#[120]⟩ : ByteArray) (RatA.mk false [] []) [(NodeA.mk (22 : Int) (⟨#[]⟩ : ByteArray) (RatA.mk false [] []) [(NodeA.mk (2 : Int) (⟨#[120]⟩ : ByteArray) (RatA.mk false [] []) []), (NodeA.mk (2 : Int) (⟨#[122]⟩ : ByteArray) (RatA.mk false [] []) [])])]) [] (⟨#[122]⟩ : ByteArray)).bind fun r5 => 
  if (r1.2 == (0 : Int)) then
    (r08_Equal K r1.1 (NodeA.mk (33 : Int) (⟨#[121]⟩ : ByteArray) (RatA.mk false [] []) [(NodeA.mk (22 : Int) (⟨#[]⟩ : ByteArray) (RatA.mk false [] []) [(NodeA.mk (2 : Int) (⟨#[121]⟩ : ByteArray) (RatA.mk false [] []) []), (NodeA.mk (2 : Int) (⟨#[122]⟩ : ByteArray) (RatA.mk false [] []) [])])])).bind fun r8 => 
    if r8 then
      if (r3.2 == (0 : Int)) then
        if r3.1 then
          some (r5.2 == (180 : Int))
        else
          some false
      else
        some false
    else
      some false
  else
    some false
set_option maxHeartbeats 4000000 in
theorem law18_awake_ok {K : Nat}  {r : Bool} (h : law18_awake K  = some r) : Cn Tryz.prog 7 [] (.d (.val (.bool r))) := by
  refine Cn.ofA mixed Tryz.func7 rfl Tryz.call7 Tryz.ntmps7 Tryz.results7 (by simp) (by simp only [go_sem, reduceEqDiff, reduceAdd, reduceSub, reduceMul, reduceLeDiff, reduceLT, Nat.reduceBEq, reduceIte]) fun hfit => ?_
  unfold law18_awake at h
  refine AW.kp [] [] ?_
  refine AW.op mixed ?_
  refine AW.kp [] [] ?_
  refine AW.op mixed ?_
  refine AW.kp [1] [1] ?_
  refine AW.op mixed ?_
  refine AW.kp [0, 7] [1, 2] ?_
  refine AW.op mixed ?_
  refine AW.kp [1, 8] [2, 3] ?_
  refine AW.op mixed ?_
  apply obindE h; intro r1 hx2 h
  have hc := rename_Bound_ok (h := hx2)
  try simp only [slD, NodeA.enc_eta, RatA.enc_eta, NodeA.op_mk, NodeA.name_mk, NodeA.num_mk, NodeA.kids_mk, aggV, i64V, u32V, strV, List.map_cons, List.map_nil] at hc
  refine callK_conv hc ⟨.aggL ⟨.same _, .same _, .same _, .nil, .nil, .d (.dn (.rows ⟨⟨.refl _, .refl _, .refl _, .nil _ _, .nil _ _, .rows ⟨⟨.refl _, .refl _, .refl _, .nil _ _, .nil _ _, .nil _ _, trivial⟩, ⟨.refl _, .refl _, .refl _, .nil _ _, .nil _ _, .nil _ _, trivial⟩, trivial⟩, trivial⟩, trivial⟩)), trivial⟩, .nil, .same _, trivial⟩ (by simp only [go_sem, reduceEqDiff, reduceAdd, reduceSub, reduceMul, reduceLeDiff, reduceLT, Nat.reduceBEq, reduceIte]) ?_
  try simp only [go_sem, reduceEqDiff, reduceAdd, reduceSub, reduceMul, reduceLeDiff, reduceLT, Nat.reduceBEq, reduceIte]
  refine AW.kp [0, 1, 7] [2, 3, 4, 5] ?_
  refine AW.op mixed ?_
  apply obindE h; intro r3 hx4 h
  have hc := rename_Same_ok (h := hx4)
  try simp only [slD, NodeA.enc_eta, RatA.enc_eta, NodeA.op_mk, NodeA.name_mk, NodeA.num_mk, NodeA.kids_mk, aggV, i64V, u32V, strV, List.map_cons, List.map_nil] at hc
  refine callK_conv hc ⟨.aggL ⟨.same _, .same _, .same _, .nil, .nil, .d (.dn (.rows ⟨⟨.refl _, .refl _, .refl _, .nil _ _, .nil _ _, .rows ⟨⟨.refl _, .refl _, .refl _, .nil _ _, .nil _ _, .nil _ _, trivial⟩, ⟨.refl _, .refl _, .refl _, .nil _ _, .nil _ _, .nil _ _, trivial⟩, trivial⟩, trivial⟩, trivial⟩)), trivial⟩, .aggL ⟨.same _, .same _, .same _, .nil, .nil, .d (.dn (.rows ⟨⟨.refl _, .refl _, .refl _, .nil _ _, .nil _ _, .rows ⟨⟨.refl _, .refl _, .refl _, .nil _ _, .nil _ _, .nil _ _, trivial⟩, ⟨.refl _, .refl _, .refl _, .nil _ _, .nil _ _, .nil _ _, trivial⟩, trivial⟩, trivial⟩, trivial⟩)), trivial⟩, trivial⟩ (by simp only [go_sem, reduceEqDiff, reduceAdd, reduceSub, reduceMul, reduceLeDiff, reduceLT, Nat.reduceBEq, reduceIte]) ?_
  try simp only [go_sem, reduceEqDiff, reduceAdd, reduceSub, reduceMul, reduceLeDiff, reduceLT, Nat.reduceBEq, reduceIte]
  refine AW.kp [0, 1, 2] [2, 3, 4, 5, 6, 7] ?_
  refine AW.op mixed ?_
  apply obindE h; intro r5 hx6 h
  have hc := rename_Bound_ok (h := hx6)
  try simp only [slD, NodeA.enc_eta, RatA.enc_eta, NodeA.op_mk, NodeA.name_mk, NodeA.num_mk, NodeA.kids_mk, aggV, i64V, u32V, strV, List.map_cons, List.map_nil] at hc
  refine callK_conv hc ⟨.aggL ⟨.same _, .same _, .same _, .nil, .nil, .d (.dn (.rows ⟨⟨.refl _, .refl _, .refl _, .nil _ _, .nil _ _, .rows ⟨⟨.refl _, .refl _, .refl _, .nil _ _, .nil _ _, .nil _ _, trivial⟩, ⟨.refl _, .refl _, .refl _, .nil _ _, .nil _ _, .nil _ _, trivial⟩, trivial⟩, trivial⟩, trivial⟩)), trivial⟩, .nil, .same _, trivial⟩ (by simp only [go_sem, reduceEqDiff, reduceAdd, reduceSub, reduceMul, reduceLeDiff, reduceLT, Nat.reduceBEq, reduceIte]) ?_
  try simp only [go_sem, reduceEqDiff, reduceAdd, reduceSub, reduceMul, reduceLeDiff, reduceLT, Nat.reduceBEq, reduceIte]
  refine AW.kp [1, 2] [3, 4, 5, 6, 7, 9] ?_
  refine AW.op mixed ?_
  refine splitK_intro (fun hb7 => ?_) (fun hb7 => ?_)
  · have h := ifT hb7 h
    try simp only [go_sem, reduceEqDiff, reduceAdd, reduceSub, reduceMul, reduceLeDiff, reduceLT, Nat.reduceBEq, reduceIte, hb7]
    apply obindE h; intro r8 hx9 h
    have hc := r08_Equal_ok (h := hx9)
    try simp only [slD, NodeA.enc_eta, RatA.enc_eta, NodeA.op_mk, NodeA.name_mk, NodeA.num_mk, NodeA.kids_mk, aggV, i64V, u32V, strV, List.map_cons, List.map_nil] at hc
    refine callK_conv hc ⟨.same _, .aggL ⟨.same _, .same _, .same _, .nil, .nil, .d (.dn (.rows ⟨⟨.refl _, .refl _, .refl _, .nil _ _, .nil _ _, .rows ⟨⟨.refl _, .refl _, .refl _, .nil _ _, .nil _ _, .nil _ _, trivial⟩, ⟨.refl _, .refl _, .refl _, .nil _ _, .nil _ _, .nil _ _, trivial⟩, trivial⟩, trivial⟩, trivial⟩)), trivial⟩, trivial⟩ (by simp only [go_sem, reduceEqDiff, reduceAdd, reduceSub, reduceMul, reduceLeDiff, reduceLT, Nat.reduceBEq, reduceIte]) ?_
    try simp only [go_sem, reduceEqDiff, reduceAdd, reduceSub, reduceMul, reduceLeDiff, reduceLT, Nat.reduceBEq, reduceIte, hb7]
    refine splitK_intro (fun hb10 => ?_) (fun hb10 => ?_)
    · have h := ifT hb10 h
      try simp only [go_sem, reduceEqDiff, reduceAdd, reduceSub, reduceMul, reduceLeDiff, reduceLT, Nat.reduceBEq, reduceIte, hb7, hb10]
      refine splitK_intro (fun hb11 => ?_) (fun hb11 => ?_)
      · have h := ifT hb11 h
        try simp only [go_sem, reduceEqDiff, reduceAdd, reduceSub, reduceMul, reduceLeDiff, reduceLT, Nat.reduceBEq, reduceIte, hb7, hb10, hb11]
        refine splitK_intro (fun hb12 => ?_) (fun hb12 => ?_)
        · have h := ifT hb12 h
          try simp only [go_sem, reduceEqDiff, reduceAdd, reduceSub, reduceMul, reduceLeDiff, reduceLT, Nat.reduceBEq, reduceIte, hb7, hb10, hb11, hb12]
          refine AW.ret ?_
          obtain rfl := Option.some.inj h
          refine nz ?_
          exact .same _
        have h := ifF hb12 h
        try simp only [go_sem, reduceEqDiff, reduceAdd, reduceSub, reduceMul, reduceLeDiff, reduceLT, Nat.reduceBEq, reduceIte, hb7, hb10, hb11, hb12]
        refine AW.ret ?_
        obtain rfl := Option.some.inj h
        refine nz ?_
        exact .same _
      have h := ifF hb11 h
      try simp only [go_sem, reduceEqDiff, reduceAdd, reduceSub, reduceMul, reduceLeDiff, reduceLT, Nat.reduceBEq, reduceIte, hb7, hb10, hb11]
      refine AW.ret ?_
      obtain rfl := Option.some.inj h
      refine nz ?_
      exact .same _
    have h := ifF hb10 h
    try simp only [go_sem, reduceEqDiff, reduceAdd, reduceSub, reduceMul, reduceLeDiff, reduceLT, Nat.reduceBEq, reduceIte, hb7, hb10]
    refine AW.ret ?_
    obtain rfl := Option.some.inj h
    refine nz ?_
    exact .same _
  have h := ifF hb7 h
  try simp only [go_sem, reduceEqDiff, reduceAdd, reduceSub, reduceMul, reduceLeDiff, reduceLT, Nat.reduceBEq, reduceIte, hb7]
  refine AW.ret ?_
  obtain rfl := Option.some.inj h
  refine nz ?_
  exact .same _
/-! ### isochrone/isochroneref08.Size -/
def r08_Size_body (K : Nat) (self8 : NodeA → Option Int) (p0 : NodeA) : Option Int := ((iter (S := Int × Int) (R := Int) K (fun again (i1_0, i1_1) => 
    if (decide (i1_1 < (p0.kids.length : Int))) then
      (idx p0.kids i1_1).bind fun x6 => 
      (self8 (x6)).bind fun r8 => 
      again (IntKind.wrap .i64 (i1_0 + r8), IntKind.wrap .i64 (i1_1 + (1 : Int)))
    else
      some i1_0) ((1 : Int), (0 : Int))) : Option Int).bind (fun e2_0 => 
  some e2_0)
set_option maxHeartbeats 4000000 in
theorem r08_Size_step (K : Nat) (self8 : NodeA → Option Int) (hself8 : ∀ (q : NodeA) (r : Int), self8 q = some r → Cn Tryz.prog 8 [aggV q.enc] (.d (.val (.int .i64 r)))) (p0 : NodeA) (r : Int) (h : r08_Size_body K self8 p0 = some r) : Cn Tryz.prog 8 [aggV p0.enc] (.d (.val (.int .i64 r))) := by
  refine Cn.ofA mixed Tryz.func8 rfl Tryz.call8 Tryz.ntmps8 Tryz.results8 (by simp) (by simp only [go_sem, reduceEqDiff, reduceAdd, reduceSub, reduceMul, reduceLeDiff, reduceLT, Nat.reduceBEq, reduceIte]) fun hfit => ?_
  unfold r08_Size_body at h
  refine AW.kp [] [0] ?_
  refine AW.op mixed ?_
  refine AW.kp [0] [1] ?_
  refine AW.op mixed ?_
  refine AW.kp [0] [1, 3] ?_
  refine AW.one ?_
  refine AW.op mixed ?_
  refine AW.kp [0] [1, 3, 4] ?_
  refine obindE h fun oJ4 h hJ4 => ?_
  refine AW.join (S := Int) (fun e2_0 => [(3, .d (.val (.int .i64 e2_0)))]) (fun e2_0 => []) (fun x => x = oJ4) ?_ ?_
  · refine AW.block ?_
    refine AW.iter (S := Int × Int) (fun (i1_0, i1_1) => [(1, .ptr 0 6 0 0), (3, .d (.val (.int .i64 i1_0))), (4, .d (.val (.int .i64 i1_1)))]) (fun (i1_0, i1_1) => [some ⟨6, [[.d (.val (.int .i64 p0.op)), .d (.val (.string p0.name)), .d (.val (.bool p0.num.neg)), .d (slD u32V p0.num.num), .d (slD u32V p0.num.den), .d (slD NodeA.enc p0.kids)]]⟩]) [0] h (by simp only [go_sem, reduceEqDiff, reduceAdd, reduceSub, reduceMul, reduceLeDiff, reduceLT, Nat.reduceBEq, reduceIte]) ?_
    rintro again ⟨i1_0, i1_1⟩ h
    try dsimp only at h
    refine AW.one ?_
    refine AW.op mixed ?_
    refine AW.kp [0] [1, 3, 4, 9] ?_
    refine AW.ts (decide (i1_1 < (p0.kids.length : Int))) (fun hb5 => ?_) (fun hb5 => ?_)
    · have h := ifT hb5 h
      refine AW.sk ?_
      refine AW.kp [0] [1, 3, 4] ?_
      refine AW.one ?_
      refine AW.block ?_
      refine AW.reg mixed (by kernel_rfl) ?_
      apply obindE h; intro x6 hx7 h
      try simp only [go_sem, reduceEqDiff, reduceAdd, reduceSub, reduceMul, reduceLeDiff, reduceLT, Nat.reduceBEq, reduceIte, (idx_some hx7).1, (idx_some hx7).2]
      apply obindE h; intro r8 hx9 h
      have hc := nx (hself8 _ _ hx9)
      refine callK_pure hc (by simp only [go_sem, reduceEqDiff, reduceAdd, reduceSub, reduceMul, reduceLeDiff, reduceLT, Nat.reduceBEq, reduceIte]) ?_
      try simp only [go_sem, reduceEqDiff, reduceAdd, reduceSub, reduceMul, reduceLeDiff, reduceLT, Nat.reduceBEq, reduceIte, (idx_some hx7).1, (idx_some hx7).2]
      refine AW.cut [0] [(1, .ptr 0 6 0 0), (3, .d (.val (.int .i64 (IntKind.wrap .i64 (i1_0 + r8))))), (4, .d (.val (.int .i64 i1_1)))] [some ⟨6, [[.d (.val (.int .i64 p0.op)), .d (.val (.string p0.name)), .d (.val (.bool p0.num.neg)), .d (slD u32V p0.num.num), .d (slD u32V p0.num.den), .d (slD NodeA.enc p0.kids)]]⟩] (by simp only [go_sem, reduceEqDiff, reduceAdd, reduceSub, reduceMul, reduceLeDiff, reduceLT, Nat.reduceBEq, reduceIte, (idx_some hx7).1, (idx_some hx7).2]) ?_
      refine AW.rg mixed ?_
      exact NextQ.ar (IntKind.wrap .i64 (i1_0 + r8), IntKind.wrap .i64 (i1_1 + (1 : Int))) [0] h
    have h := ifF hb5 h
    refine AW.ex ?_
    exact JoinQ.ar i1_0 [] (Option.some.inj h)
  rintro e2_0 rfl
  have h := hJ4
  try dsimp only [Out.fin] at h
  refine nz ?_
  refine AW.kp [] [3] ?_
  refine AW.op mixed ?_
  refine AW.ret ?_
  obtain rfl := Option.some.inj h
  refine nz ?_
  exact .same _
def r08_Size (K : Nat) (p0 : NodeA) : Option Int := iter K (fun self q => r08_Size_body K self q) p0
theorem key_r08_Size {K : Nat} (k : Nat) : (∀ (q : NodeA) (r : Int), iter k (fun self q => r08_Size_body K self q) q = some r → Cn Tryz.prog 8 [aggV q.enc] (.d (.val (.int .i64 r)))) := by
  induction k with
  | zero => exact fun q r h => by cases h
  | succ k ih => exact fun q r h => r08_Size_step K _ ih q r h
theorem r08_Size_ok {K : Nat} {p0 : NodeA} {r : Int} (h : r08_Size K p0 = some r) : Cn Tryz.prog 8 [aggV p0.enc] (.d (.val (.int .i64 r))) := (key_r08_Size K) p0 r h
/-! ### isochrone/isochroneref01.Int -/
def r01_Int (K : Nat) (p0 : Int) : Option (List Int) := ((iter (S := Int × (List Int)) (R := (List Int)) K (fun again (i1_0, i1_1) => 
    if (decide ((0 : Int) < i1_0)) then
      (must ((10000 : Int) != 0)).bind fun z6 => 
      (appO 8 i1_1 [i1_0.tmod (10000 : Int)]).bind fun l8 => 
      (must ((10000 : Int) != 0)).bind fun z10 => 
      again (IntKind.wrap .i64 (i1_0.tdiv (10000 : Int)), l8)
    else
      some i1_1) (p0, ([] : List Int))) : Option (List Int)).bind (fun e2_0 => 
  some e2_0)
set_option maxHeartbeats 4000000 in
theorem r01_Int_ok {K : Nat} {p0 : Int} {r : (List Int)} (h : r01_Int K p0 = some r) : Cn Tryz.prog 52 [.d (.val (.int .i64 p0))] (.d (slD i64V r)) := by
  refine Cn.ofA mixed Tryz.func52 rfl Tryz.call52 Tryz.ntmps52 Tryz.results52 (by simp) (by simp only [go_sem, reduceEqDiff, reduceAdd, reduceSub, reduceMul, reduceLeDiff, reduceLT, Nat.reduceBEq, reduceIte]) fun hfit => ?_
  unfold r01_Int at h
  refine AW.kp [] [0] ?_
  refine AW.op mixed ?_
  refine AW.kp [] [0] ?_
  refine AW.op mixed ?_
  refine AW.cu [0] [(0, .d (.val (.int .i64 p0))), (3, .msl 0 1 0 (([] : List Int).length))] [some ⟨1, (([] : List Int).map i64V).map (·.map .d)⟩] ?_
  refine AW.one ?_
  refine obindE h fun oJ4 h hJ4 => ?_
  refine AW.join (S := (List Int)) (fun e2_0 => [(3, .msl 0 1 0 (e2_0.length))]) (fun e2_0 => [some ⟨1, (e2_0.map i64V).map (·.map .d)⟩]) (fun x => x = oJ4) ?_ ?_
  · refine AW.block ?_
    refine AW.iter (S := Int × (List Int)) (fun (i1_0, i1_1) => [(0, .d (.val (.int .i64 i1_0))), (3, .msl 0 1 0 (i1_1.length))]) (fun (i1_0, i1_1) => [some ⟨1, (i1_1.map i64V).map (·.map .d)⟩]) [0] h (by simp only [go_sem, reduceEqDiff, reduceAdd, reduceSub, reduceMul, reduceLeDiff, reduceLT, Nat.reduceBEq, reduceIte]) ?_
    rintro again ⟨i1_0, i1_1⟩ h
    try dsimp only at h
    refine AW.one ?_
    refine AW.op mixed ?_
    refine AW.cu [0] [(0, .d (.val (.int .i64 i1_0))), (3, .msl 0 1 0 (i1_1.length)), (6, .d (.val (.bool (decide ((0 : Int) < i1_0)))))] [some ⟨1, (i1_1.map i64V).map (·.map .d)⟩] ?_
    refine AW.ts (decide ((0 : Int) < i1_0)) (fun hb5 => ?_) (fun hb5 => ?_)
    · have h := ifT hb5 h
      refine AW.sk ?_
      refine AW.cu [0] [(0, .d (.val (.int .i64 i1_0))), (3, .msl 0 1 0 (i1_1.length))] [some ⟨1, (i1_1.map i64V).map (·.map .d)⟩] ?_
      refine AW.block ?_
      refine AW.one ?_
      refine AW.reg mixed (by kernel_rfl) ?_
      apply obindE h; intro z6 hx7 h
      try simp only [go_sem, reduceEqDiff, reduceAdd, reduceSub, reduceMul, reduceLeDiff, reduceLT, Nat.reduceBEq, reduceIte, bop_rem (P := Tryz.prog) (must_ne hx7)]
      apply obindE h; intro l8 hx9 h
      refine appR (f := i64V) hx9 rfl (by simp only [go_sem, reduceEqDiff, reduceAdd, reduceSub, reduceMul, reduceLeDiff, reduceLT, Nat.reduceBEq, reduceIte, bop_rem (P := Tryz.prog) (must_ne hx7)]) (by simp only [go_sem, reduceEqDiff, reduceAdd, reduceSub, reduceMul, reduceLeDiff, reduceLT, Nat.reduceBEq, reduceIte, bop_rem (P := Tryz.prog) (must_ne hx7)]) (by simp only [go_sem, reduceEqDiff, reduceAdd, reduceSub, reduceMul, reduceLeDiff, reduceLT, Nat.reduceBEq, reduceIte, bop_rem (P := Tryz.prog) (must_ne hx7)]) ?_
      try simp only [go_sem, reduceEqDiff, reduceAdd, reduceSub, reduceMul, reduceLeDiff, reduceLT, Nat.reduceBEq, reduceIte, bop_rem (P := Tryz.prog) (must_ne hx7)]
      refine AW.cut [5] [(0, .d (.val (.int .i64 i1_0))), (3, .msl 0 1 0 (l8.length))] [some ⟨1, (l8.map i64V).map (·.map .d)⟩] (by simp only [go_sem, reduceEqDiff, reduceAdd, reduceSub, reduceMul, reduceLeDiff, reduceLT, Nat.reduceBEq, reduceIte, bop_rem (P := Tryz.prog) (must_ne hx7)]) ?_
      refine AW.reg mixed (by kernel_rfl) ?_
      apply obindE h; intro z10 hx11 h
      try simp only [go_sem, reduceEqDiff, reduceAdd, reduceSub, reduceMul, reduceLeDiff, reduceLT, Nat.reduceBEq, reduceIte, bop_quo (P := Tryz.prog) (must_ne hx11)]
      refine NextQ.mk (IntKind.wrap .i64 (i1_0.tdiv (10000 : Int)), l8) [0] h (by simp only [go_sem, reduceEqDiff, reduceAdd, reduceSub, reduceMul, reduceLeDiff, reduceLT, Nat.reduceBEq, reduceIte, bop_quo (P := Tryz.prog) (must_ne hx11)])
    have h := ifF hb5 h
    refine AW.ex ?_
    exact JoinQ.ar i1_1 [0] (Option.some.inj h)
  rintro e2_0 rfl
  have h := hJ4
  try dsimp only [Out.fin] at h
  refine nz ?_
  refine AW.cu [0] [(3, .msl 0 1 0 (e2_0.length))] [some ⟨1, (e2_0.map i64V).map (·.map .d)⟩] ?_
  refine AW.op mixed ?_
  refine AW.ret ?_
  obtain rfl := Option.some.inj h
  refine nz ?_
  exact sealArr (by simp only [go_sem, reduceEqDiff, reduceAdd, reduceSub, reduceMul, reduceLeDiff, reduceLT, Nat.reduceBEq, reduceIte])
end Go.Proofs.YtngmfimpaembnaaGreatDoor
