/- Part of the proof of a law: contracts of the functions that the law reaches, or plain laws of them, out of the abstract layer (the texts YtcgphoghmgeecaaIso..). No condition. -/
import Derived.Test.YtcgphoghmgeecaaW
import Derived.Test.YtcgphoghmgeecaaIsoI
import Derived.Test.YtcgphoghmgeecaaShelf
import Derived.Test.YtcgphoghmgeecaaIsoU
import Derived.Test.YtcgphoghmgeecaaPa
namespace Go.Proofs.Ytcgphoghmgeecaa
open Go Go.Iso Go.Proofs
set_option linter.unusedSimpArgs false
set_option linter.unusedVariables false
set_option maxRecDepth 100000

/-! ### isochrone/static.FreeOf -/
def static_FreeOf_body (K : Nat) (self47 : NodeA → Option Api_NamesA) (p0 : NodeA) : Option Api_NamesA := ((
    if (p0.op == (2 : Int)) then
      (static_one K p0.name).bind fun r4 => 
      outM (
        some r4)
    else
      if (p0.op == (3 : Int)) then
        (catO p0.name (⟨#[39]⟩ : ByteArray)).bind fun s7 => 
        (static_one K s7).bind fun r9 => 
        outM (
          some r9)
      else
        ((
          if (p0.op == (11 : Int)) then
            some (p0.op == (11 : Int))
          else
            if (p0.op == (38 : Int)) then
              some (p0.op == (38 : Int))
            else
              if (p0.op == (61 : Int)) then
                some (p0.op == (61 : Int))
              else
                if (p0.op == (62 : Int)) then
                  some (p0.op == (62 : Int))
                else
                  some (p0.op == (56 : Int))) : Option Bool).bind (fun v11_0 => 
        if v11_0 then
          (static_everything K ).bind fun r18 => 
          outM (
            some r18)
        else
          ((
            if (p0.op == (12 : Int)) then
              some (p0.op == (12 : Int))
            else
              some (p0.op == (39 : Int))) : Option Bool).bind (fun v20_0 => 
          if v20_0 then
            (idx p0.kids (0 : Int)).bind fun x24 => 
            (self47 (x24)).bind fun r26 => 
            (static_primes K r26).bind fun r28 => 
            outM (
              some r28)
          else
            ((
              if (p0.op == (33 : Int)) then
                some (p0.op == (33 : Int))
              else
                some (p0.op == (34 : Int))) : Option Bool).bind (fun v30_0 => 
            if v30_0 then
              (idx p0.kids (0 : Int)).bind fun x34 => 
              (self47 (x34)).bind fun r36 => 
              (static_one K p0.name).bind fun r38 => 
              (static_minus K r36 r38).bind fun r40 => 
              outM (
                some r40)
            else
              ((
                if (p0.op == (35 : Int)) then
                  some (p0.op == (35 : Int))
                else
                  if (p0.op == (36 : Int)) then
                    some (p0.op == (36 : Int))
                  else
                    some (p0.op == (57 : Int))) : Option Bool).bind (fun v42_0 => 
              if v42_0 then
                (idx p0.kids (0 : Int)).bind fun x47 => 
                (self47 (x47)).bind fun r49 => 
                (idx p0.kids (1 : Int)).bind fun x51 => 
                (self47 (x51)).bind fun r53 => 
                (static_MustOf K x47).bind fun r55 => 
                (static_minus K r53 r55).bind fun r57 => 
                (static_union K r49 r57).bind fun r59 => 
                outM (
                  some r59)
              else
                if (p0.op == (52 : Int)) then
                  outM (
                    some (Api_NamesA.mk false []))
                else
                  if (p0.op == (55 : Int)) then
                    (static_one K p0.name).bind fun r63 => 
                    some (.go (r63.all, r63.list))
                  else
                    some (.go (false, []))))))) : Option (Out (Bool × (List ByteArray)) _)).bind (Out.fin fun (v1_0, v1_1) => 
  ((iter (S := Int × Api_NamesA) (R := Api_NamesA) K (fun again (i65_0, i65_1) => 
    if (decide (i65_0 < (p0.kids.length : Int))) then
      (idx p0.kids i65_0).bind fun x70 => 
      (self47 (x70)).bind fun r72 => 
      (static_union K i65_1 r72).bind fun r74 => 
      again (IntKind.wrap .i64 (i65_0 + (1 : Int)), r74)
    else
      some i65_1) ((0 : Int), (Api_NamesA.mk v1_0 v1_1))) : Option Api_NamesA).bind (fun e66_0 => 
  some e66_0))
set_option maxHeartbeats 4000000 in
theorem static_FreeOf_step (K : Nat) (self47 : NodeA → Option Api_NamesA) (hself47 : ∀ (q : NodeA) (r : Api_NamesA), self47 q = some r → Cn Try.prog 47 [aggV q.enc] (aggV r.enc)) (p0 : NodeA) (r : Api_NamesA) (h : static_FreeOf_body K self47 p0 = some r) : Cn Try.prog 47 [aggV p0.enc] (aggV r.enc) := by
  refine Cn.ofA mixed Try.func47 rfl Try.call47 Try.ntmps47 Try.results47 (by simp) (by simp only [go_sem, Nat.reduceEqDiff, Nat.reduceAdd, Nat.reduceSub, Nat.reduceMul, Nat.reduceLeDiff, Nat.reduceLT, Nat.reduceBEq, reduceIte]) fun hfit => ?_
  unfold static_FreeOf_body at h
  refine AW.kp [] [0] ?_
  refine AW.op mixed ?_
  refine AW.kp [0, 1] [1, 2] ?_
  refine AW.op mixed ?_
  refine AW.kp [0, 1, 2] [1, 2, 3] ?_
  refine AW.one ?_
  refine obindE h fun oJ2 h hJ2 => ?_
  refine AW.join (S := Bool × (List ByteArray)) (fun (v1_0, v1_1) => [(1, .ptr 0 6 0 0), (2, .ptr 1 2 0 0), (3, .ptr 2 2 0 0)]) (fun (v1_0, v1_1) => [some ⟨6, [[.d (.val (.int .i64 p0.op)), .d (.val (.string p0.name)), .d (.val (.bool p0.num.neg)), .d (slD u32V p0.num.num), .d (slD u32V p0.num.den), .d (slD NodeA.enc p0.kids)]]⟩, some ⟨2, [[.d (.val (.bool false)), .d (.val (.slice none 0 0))]]⟩, some ⟨2, [[.d (.val (.bool v1_0)), .d (slD strV v1_1)]]⟩]) (fun x => oJ2 = .go x) ?_ ?_
  · skip
    refine AW.op mixed ?_
    refine AW.kp [0, 1, 2] [1, 2, 3, 7] ?_
    refine AW.block ?_
    refine AW.op mixed ?_
    refine AW.kp [0, 1, 2] [1, 2, 3, 7, 8] ?_
    refine AW.ts (p0.op == (2 : Int)) (fun hb3 => ?_) (fun hb3 => ?_)
    · have h := ifT hb3 h
      refine AW.op mixed ?_
      apply obindE h; intro r4 hx5 h
      have hc := nx (static_one_ok (h := hx5))
      refine callP hc ?_
      refine AW.ret ?_
      obtain ⟨_, h, ho⟩ := outM_some h
      rw [ho, Out.fin_out] at hJ2
      have h := h.trans hJ2
      obtain rfl := Option.some.inj h
      refine nz ?_
      exact .same _
    have h := ifF hb3 h
    refine AW.op mixed ?_
    refine AW.kp [0, 1, 2] [1, 2, 3, 7, 13] ?_
    refine AW.ts (p0.op == (3 : Int)) (fun hb6 => ?_) (fun hb6 => ?_)
    · have h := ifT hb6 h
      refine AW.op mixed ?_
      apply obindE h; intro s7 hx8 h
      try simp only [go_sem, Nat.reduceEqDiff, Nat.reduceAdd, Nat.reduceSub, Nat.reduceMul, Nat.reduceLeDiff, Nat.reduceLT, Nat.reduceBEq, reduceIte, bop_cat (P := Try.prog) hx8]
      apply obindE h; intro r9 hx10 h
      have hc := nx (static_one_ok (h := hx10))
      refine callK_pure hc (by simp only [go_sem, Nat.reduceEqDiff, Nat.reduceAdd, Nat.reduceSub, Nat.reduceMul, Nat.reduceLeDiff, Nat.reduceLT, Nat.reduceBEq, reduceIte]) ?_
      try simp only [go_sem, Nat.reduceEqDiff, Nat.reduceAdd, Nat.reduceSub, Nat.reduceMul, Nat.reduceLeDiff, Nat.reduceLT, Nat.reduceBEq, reduceIte, bop_cat (P := Try.prog) hx8]
      refine AW.ret ?_
      obtain ⟨_, h, ho⟩ := outM_some h
      rw [ho, Out.fin_out] at hJ2
      have h := h.trans hJ2
      obtain rfl := Option.some.inj h
      refine nz ?_
      exact .same _
    have h := ifF hb6 h
    refine AW.one ?_
    refine obindE h fun oJ12 h hJ12 => ?_
    refine AW.join (S := Bool) (fun v11_0 => [(1, .ptr 0 6 0 0), (2, .ptr 1 2 0 0), (3, .ptr 2 2 0 0), (7, .d (.val (.int .i64 p0.op))), (19, .d (.val (.bool v11_0)))]) (fun v11_0 => [some ⟨6, [[.d (.val (.int .i64 p0.op)), .d (.val (.string p0.name)), .d (.val (.bool p0.num.neg)), .d (slD u32V p0.num.num), .d (slD u32V p0.num.den), .d (slD NodeA.enc p0.kids)]]⟩, some ⟨2, [[.d (.val (.bool false)), .d (.val (.slice none 0 0))]]⟩, some ⟨2, [[.d (.val (.bool false)), .d (.val (.slice none 0 0))]]⟩]) (fun x => x = oJ12) ?_ ?_
    · skip
      refine AW.op mixed ?_
      refine AW.kp [0, 1, 2] [1, 2, 3, 7, 19] ?_
      refine AW.ts (p0.op == (11 : Int)) (fun hb13 => ?_) (fun hb13 => ?_)
      · have h := ifT hb13 h
        refine AW.sk ?_
        exact JoinQ.ar (p0.op == (11 : Int)) [0, 1, 2] (Option.some.inj h)
      have h := ifF hb13 h
      refine AW.op mixed ?_
      refine AW.kp [0, 1, 2] [1, 2, 3, 7, 19] ?_
      refine AW.ts (p0.op == (38 : Int)) (fun hb14 => ?_) (fun hb14 => ?_)
      · have h := ifT hb14 h
        refine AW.sk ?_
        exact JoinQ.ar (p0.op == (38 : Int)) [0, 1, 2] (Option.some.inj h)
      have h := ifF hb14 h
      refine AW.op mixed ?_
      refine AW.kp [0, 1, 2] [1, 2, 3, 7, 19] ?_
      refine AW.ts (p0.op == (61 : Int)) (fun hb15 => ?_) (fun hb15 => ?_)
      · have h := ifT hb15 h
        refine AW.sk ?_
        exact JoinQ.ar (p0.op == (61 : Int)) [0, 1, 2] (Option.some.inj h)
      have h := ifF hb15 h
      refine AW.op mixed ?_
      refine AW.kp [0, 1, 2] [1, 2, 3, 7, 19] ?_
      refine AW.ts (p0.op == (62 : Int)) (fun hb16 => ?_) (fun hb16 => ?_)
      · have h := ifT hb16 h
        refine AW.sk ?_
        exact JoinQ.ar (p0.op == (62 : Int)) [0, 1, 2] (Option.some.inj h)
      have h := ifF hb16 h
      refine AW.rg mixed ?_
      exact JoinQ.ar (p0.op == (56 : Int)) [0, 1, 2] (Option.some.inj h)
    rintro v11_0 rfl
    have h := hJ12
    try dsimp only [Out.fin] at h
    refine nz ?_
    refine AW.ts v11_0 (fun hb17 => ?_) (fun hb17 => ?_)
    · have h := ifT hb17 h
      refine AW.op mixed ?_
      apply obindE h; intro r18 hx19 h
      have hc := nx (static_everything_ok (h := hx19))
      refine callP hc ?_
      refine AW.ret ?_
      obtain ⟨_, h, ho⟩ := outM_some h
      rw [ho, Out.fin_out] at hJ2
      have h := h.trans hJ2
      obtain rfl := Option.some.inj h
      refine nz ?_
      exact .same _
    have h := ifF hb17 h
    refine AW.one ?_
    refine obindE h fun oJ21 h hJ21 => ?_
    refine AW.join (S := Bool) (fun v20_0 => [(1, .ptr 0 6 0 0), (2, .ptr 1 2 0 0), (3, .ptr 2 2 0 0), (7, .d (.val (.int .i64 p0.op))), (26, .d (.val (.bool v20_0)))]) (fun v20_0 => [some ⟨6, [[.d (.val (.int .i64 p0.op)), .d (.val (.string p0.name)), .d (.val (.bool p0.num.neg)), .d (slD u32V p0.num.num), .d (slD u32V p0.num.den), .d (slD NodeA.enc p0.kids)]]⟩, some ⟨2, [[.d (.val (.bool false)), .d (.val (.slice none 0 0))]]⟩, some ⟨2, [[.d (.val (.bool false)), .d (.val (.slice none 0 0))]]⟩]) (fun x => x = oJ21) ?_ ?_
    · skip
      refine AW.op mixed ?_
      refine AW.kp [0, 1, 2] [1, 2, 3, 7, 26] ?_
      refine AW.ts (p0.op == (12 : Int)) (fun hb22 => ?_) (fun hb22 => ?_)
      · have h := ifT hb22 h
        refine AW.sk ?_
        exact JoinQ.ar (p0.op == (12 : Int)) [0, 1, 2] (Option.some.inj h)
      have h := ifF hb22 h
      refine AW.rg mixed ?_
      exact JoinQ.ar (p0.op == (39 : Int)) [0, 1, 2] (Option.some.inj h)
    rintro v20_0 rfl
    have h := hJ21
    try dsimp only [Out.fin] at h
    refine nz ?_
    refine AW.ts v20_0 (fun hb23 => ?_) (fun hb23 => ?_)
    · have h := ifT hb23 h
      refine AW.one ?_
      refine AW.reg mixed (by kernel_rfl) ?_
      apply obindE h; intro x24 hx25 h
      try simp only [go_sem, Nat.reduceEqDiff, Nat.reduceAdd, Nat.reduceSub, Nat.reduceMul, Nat.reduceLeDiff, Nat.reduceLT, Nat.reduceBEq, reduceIte, (idx_some hx25).1, (idx_some hx25).2]
      apply obindE h; intro r26 hx27 h
      have hc := nx (hself47 _ _ hx27)
      refine callK_pure hc (by simp only [go_sem, Nat.reduceEqDiff, Nat.reduceAdd, Nat.reduceSub, Nat.reduceMul, Nat.reduceLeDiff, Nat.reduceLT, Nat.reduceBEq, reduceIte]) ?_
      try simp only [go_sem, Nat.reduceEqDiff, Nat.reduceAdd, Nat.reduceSub, Nat.reduceMul, Nat.reduceLeDiff, Nat.reduceLT, Nat.reduceBEq, reduceIte, (idx_some hx25).1, (idx_some hx25).2]
      apply obindE h; intro r28 hx29 h
      have hc := nx (static_primes_ok (h := hx29))
      refine callK_pure hc (by simp only [go_sem, Nat.reduceEqDiff, Nat.reduceAdd, Nat.reduceSub, Nat.reduceMul, Nat.reduceLeDiff, Nat.reduceLT, Nat.reduceBEq, reduceIte]) ?_
      try simp only [go_sem, Nat.reduceEqDiff, Nat.reduceAdd, Nat.reduceSub, Nat.reduceMul, Nat.reduceLeDiff, Nat.reduceLT, Nat.reduceBEq, reduceIte, (idx_some hx25).1, (idx_some hx25).2]
      refine AW.ret ?_
      obtain ⟨_, h, ho⟩ := outM_some h
      rw [ho, Out.fin_out] at hJ2
      have h := h.trans hJ2
      obtain rfl := Option.some.inj h
      refine nz ?_
      exact .same _
    have h := ifF hb23 h
    refine AW.one ?_
    refine obindE h fun oJ31 h hJ31 => ?_
    refine AW.join (S := Bool) (fun v30_0 => [(1, .ptr 0 6 0 0), (2, .ptr 1 2 0 0), (3, .ptr 2 2 0 0), (7, .d (.val (.int .i64 p0.op))), (35, .d (.val (.bool v30_0)))]) (fun v30_0 => [some ⟨6, [[.d (.val (.int .i64 p0.op)), .d (.val (.string p0.name)), .d (.val (.bool p0.num.neg)), .d (slD u32V p0.num.num), .d (slD u32V p0.num.den), .d (slD NodeA.enc p0.kids)]]⟩, some ⟨2, [[.d (.val (.bool false)), .d (.val (.slice none 0 0))]]⟩, some ⟨2, [[.d (.val (.bool false)), .d (.val (.slice none 0 0))]]⟩]) (fun x => x = oJ31) ?_ ?_
    · skip
      refine AW.op mixed ?_
      refine AW.kp [0, 1, 2] [1, 2, 3, 7, 35] ?_
      refine AW.ts (p0.op == (33 : Int)) (fun hb32 => ?_) (fun hb32 => ?_)
      · have h := ifT hb32 h
        refine AW.sk ?_
        exact JoinQ.ar (p0.op == (33 : Int)) [0, 1, 2] (Option.some.inj h)
      have h := ifF hb32 h
      refine AW.rg mixed ?_
      exact JoinQ.ar (p0.op == (34 : Int)) [0, 1, 2] (Option.some.inj h)
    rintro v30_0 rfl
    have h := hJ31
    try dsimp only [Out.fin] at h
    refine nz ?_
    refine AW.ts v30_0 (fun hb33 => ?_) (fun hb33 => ?_)
    · have h := ifT hb33 h
      refine AW.one ?_
      refine AW.reg mixed (by kernel_rfl) ?_
      apply obindE h; intro x34 hx35 h
      try simp only [go_sem, Nat.reduceEqDiff, Nat.reduceAdd, Nat.reduceSub, Nat.reduceMul, Nat.reduceLeDiff, Nat.reduceLT, Nat.reduceBEq, reduceIte, (idx_some hx35).1, (idx_some hx35).2]
      apply obindE h; intro r36 hx37 h
      have hc := nx (hself47 _ _ hx37)
      refine pcallK_intro hc (by simp only [go_sem, Nat.reduceEqDiff, Nat.reduceAdd, Nat.reduceSub, Nat.reduceMul, Nat.reduceLeDiff, Nat.reduceLT, Nat.reduceBEq, reduceIte]) ?_
      try simp only [go_sem, Nat.reduceEqDiff, Nat.reduceAdd, Nat.reduceSub, Nat.reduceMul, Nat.reduceLeDiff, Nat.reduceLT, Nat.reduceBEq, reduceIte, (idx_some hx35).1, (idx_some hx35).2]
      apply obindE h; intro r38 hx39 h
      have hc := nx (static_one_ok (h := hx39))
      refine pcallK_intro hc (by simp only [go_sem, Nat.reduceEqDiff, Nat.reduceAdd, Nat.reduceSub, Nat.reduceMul, Nat.reduceLeDiff, Nat.reduceLT, Nat.reduceBEq, reduceIte]) ?_
      try simp only [go_sem, Nat.reduceEqDiff, Nat.reduceAdd, Nat.reduceSub, Nat.reduceMul, Nat.reduceLeDiff, Nat.reduceLT, Nat.reduceBEq, reduceIte, (idx_some hx35).1, (idx_some hx35).2]
      apply obindE h; intro r40 hx41 h
      have hc := nx (static_minus_ok (h := hx41))
      refine pcallK_intro hc (by simp only [go_sem, Nat.reduceEqDiff, Nat.reduceAdd, Nat.reduceSub, Nat.reduceMul, Nat.reduceLeDiff, Nat.reduceLT, Nat.reduceBEq, reduceIte]) ?_
      try simp only [go_sem, Nat.reduceEqDiff, Nat.reduceAdd, Nat.reduceSub, Nat.reduceMul, Nat.reduceLeDiff, Nat.reduceLT, Nat.reduceBEq, reduceIte, (idx_some hx35).1, (idx_some hx35).2]
      refine AW.ret ?_
      obtain ⟨_, h, ho⟩ := outM_some h
      rw [ho, Out.fin_out] at hJ2
      have h := h.trans hJ2
      obtain rfl := Option.some.inj h
      refine nz ?_
      exact .same _
    have h := ifF hb33 h
    refine AW.one ?_
    refine obindE h fun oJ43 h hJ43 => ?_
    refine AW.join (S := Bool) (fun v42_0 => [(1, .ptr 0 6 0 0), (2, .ptr 1 2 0 0), (3, .ptr 2 2 0 0), (7, .d (.val (.int .i64 p0.op))), (47, .d (.val (.bool v42_0)))]) (fun v42_0 => [some ⟨6, [[.d (.val (.int .i64 p0.op)), .d (.val (.string p0.name)), .d (.val (.bool p0.num.neg)), .d (slD u32V p0.num.num), .d (slD u32V p0.num.den), .d (slD NodeA.enc p0.kids)]]⟩, some ⟨2, [[.d (.val (.bool false)), .d (.val (.slice none 0 0))]]⟩, some ⟨2, [[.d (.val (.bool false)), .d (.val (.slice none 0 0))]]⟩]) (fun x => x = oJ43) ?_ ?_
    · skip
      refine AW.op mixed ?_
      refine AW.kp [0, 1, 2] [1, 2, 3, 7, 47] ?_
      refine AW.ts (p0.op == (35 : Int)) (fun hb44 => ?_) (fun hb44 => ?_)
      · have h := ifT hb44 h
        refine AW.sk ?_
        exact JoinQ.ar (p0.op == (35 : Int)) [0, 1, 2] (Option.some.inj h)
      have h := ifF hb44 h
      refine AW.op mixed ?_
      refine AW.kp [0, 1, 2] [1, 2, 3, 7, 47] ?_
      refine AW.ts (p0.op == (36 : Int)) (fun hb45 => ?_) (fun hb45 => ?_)
      · have h := ifT hb45 h
        refine AW.sk ?_
        exact JoinQ.ar (p0.op == (36 : Int)) [0, 1, 2] (Option.some.inj h)
      have h := ifF hb45 h
      refine AW.rg mixed ?_
      exact JoinQ.ar (p0.op == (57 : Int)) [0, 1, 2] (Option.some.inj h)
    rintro v42_0 rfl
    have h := hJ43
    try dsimp only [Out.fin] at h
    refine nz ?_
    refine AW.ts v42_0 (fun hb46 => ?_) (fun hb46 => ?_)
    · have h := ifT hb46 h
      refine AW.one ?_
      refine AW.reg mixed (by kernel_rfl) ?_
      apply obindE h; intro x47 hx48 h
      try simp only [go_sem, Nat.reduceEqDiff, Nat.reduceAdd, Nat.reduceSub, Nat.reduceMul, Nat.reduceLeDiff, Nat.reduceLT, Nat.reduceBEq, reduceIte, (idx_some hx48).1, (idx_some hx48).2]
      apply obindE h; intro r49 hx50 h
      have hc := nx (hself47 _ _ hx50)
      refine pcallK_intro hc (by simp only [go_sem, Nat.reduceEqDiff, Nat.reduceAdd, Nat.reduceSub, Nat.reduceMul, Nat.reduceLeDiff, Nat.reduceLT, Nat.reduceBEq, reduceIte]) ?_
      apply obindE h; intro x51 hx52 h
      try simp only [go_sem, Nat.reduceEqDiff, Nat.reduceAdd, Nat.reduceSub, Nat.reduceMul, Nat.reduceLeDiff, Nat.reduceLT, Nat.reduceBEq, reduceIte, (idx_some hx48).1, (idx_some hx48).2, (idx_some hx52).1, (idx_some hx52).2]
      apply obindE h; intro r53 hx54 h
      have hc := nx (hself47 _ _ hx54)
      refine pcallK_intro hc (by simp only [go_sem, Nat.reduceEqDiff, Nat.reduceAdd, Nat.reduceSub, Nat.reduceMul, Nat.reduceLeDiff, Nat.reduceLT, Nat.reduceBEq, reduceIte]) ?_
      try simp only [go_sem, Nat.reduceEqDiff, Nat.reduceAdd, Nat.reduceSub, Nat.reduceMul, Nat.reduceLeDiff, Nat.reduceLT, Nat.reduceBEq, reduceIte, (idx_some hx48).1, (idx_some hx48).2, (idx_some hx52).1, (idx_some hx52).2]
      apply obindE h; intro r55 hx56 h
      have hc := nx (static_MustOf_ok (h := hx56))
      refine pcallK_intro hc (by simp only [go_sem, Nat.reduceEqDiff, Nat.reduceAdd, Nat.reduceSub, Nat.reduceMul, Nat.reduceLeDiff, Nat.reduceLT, Nat.reduceBEq, reduceIte]) ?_
      try simp only [go_sem, Nat.reduceEqDiff, Nat.reduceAdd, Nat.reduceSub, Nat.reduceMul, Nat.reduceLeDiff, Nat.reduceLT, Nat.reduceBEq, reduceIte, (idx_some hx48).1, (idx_some hx48).2, (idx_some hx52).1, (idx_some hx52).2]
      apply obindE h; intro r57 hx58 h
      have hc := nx (static_minus_ok (h := hx58))
      refine pcallK_intro hc (by simp only [go_sem, Nat.reduceEqDiff, Nat.reduceAdd, Nat.reduceSub, Nat.reduceMul, Nat.reduceLeDiff, Nat.reduceLT, Nat.reduceBEq, reduceIte]) ?_
      try simp only [go_sem, Nat.reduceEqDiff, Nat.reduceAdd, Nat.reduceSub, Nat.reduceMul, Nat.reduceLeDiff, Nat.reduceLT, Nat.reduceBEq, reduceIte, (idx_some hx48).1, (idx_some hx48).2, (idx_some hx52).1, (idx_some hx52).2]
      apply obindE h; intro r59 hx60 h
      have hc := nx (static_union_ok (h := hx60))
      refine pcallK_intro hc (by simp only [go_sem, Nat.reduceEqDiff, Nat.reduceAdd, Nat.reduceSub, Nat.reduceMul, Nat.reduceLeDiff, Nat.reduceLT, Nat.reduceBEq, reduceIte]) ?_
      try simp only [go_sem, Nat.reduceEqDiff, Nat.reduceAdd, Nat.reduceSub, Nat.reduceMul, Nat.reduceLeDiff, Nat.reduceLT, Nat.reduceBEq, reduceIte, (idx_some hx48).1, (idx_some hx48).2, (idx_some hx52).1, (idx_some hx52).2]
      refine AW.ret ?_
      obtain ⟨_, h, ho⟩ := outM_some h
      rw [ho, Out.fin_out] at hJ2
      have h := h.trans hJ2
      obtain rfl := Option.some.inj h
      refine nz ?_
      exact .same _
    have h := ifF hb46 h
    refine AW.op mixed ?_
    refine AW.kp [0, 1, 2] [1, 2, 3, 7, 68] ?_
    refine AW.ts (p0.op == (52 : Int)) (fun hb61 => ?_) (fun hb61 => ?_)
    · have h := ifT hb61 h
      refine AW.op mixed ?_
      refine AW.ret ?_
      obtain ⟨_, h, ho⟩ := outM_some h
      rw [ho, Out.fin_out] at hJ2
      have h := h.trans hJ2
      obtain rfl := Option.some.inj h
      refine nz ?_
      exact .aggL ⟨.same _, .nil, trivial⟩
    have h := ifF hb61 h
    refine AW.op mixed ?_
    refine AW.kp [0, 1, 2] [1, 2, 3, 71] ?_
    refine AW.ts (p0.op == (55 : Int)) (fun hb62 => ?_) (fun hb62 => ?_)
    · have h := ifT hb62 h
      refine AW.rg mixed ?_
      apply obindE h; intro r63 hx64 h
      have hc := nx (static_one_ok (h := hx64))
      refine callP hc ?_
      exact JoinQ.ar (r63.all, r63.list) [0, 1, 2] (Option.some.inj h).symm
    have h := ifF hb62 h
    refine AW.sk ?_
    refine JoinQ.mkS (false, []) [0, 1, 2] [] [] [(2, ⟨2, [[.d (.val (.bool false)), .d (slD strV [])]]⟩)] (Option.some.inj h).symm (by simp only [go_sem, Nat.reduceEqDiff, Nat.reduceAdd, Nat.reduceSub, Nat.reduceMul, Nat.reduceLeDiff, Nat.reduceLT, Nat.reduceBEq, reduceIte, sealL_cons, sealL_nil]) (by simp only [go_sem, Nat.reduceEqDiff, Nat.reduceAdd, Nat.reduceSub, Nat.reduceMul, Nat.reduceLeDiff, Nat.reduceLT, Nat.reduceBEq, reduceIte, sealH_cons, sealH_nil]; exact ⟨⟨.same _, .nil, trivial⟩, trivial⟩) (by simp only [go_sem, Nat.reduceEqDiff, Nat.reduceAdd, Nat.reduceSub, Nat.reduceMul, Nat.reduceLeDiff, Nat.reduceLT, Nat.reduceBEq, reduceIte])
  rintro ⟨v1_0, v1_1⟩ rfl
  have h := hJ2
  try dsimp only [Out.fin] at h
  refine nz ?_
  refine AW.one ?_
  refine AW.op mixed ?_
  refine AW.kp [1, 2] [2, 3, 77, 78, 79] ?_
  refine obindE h fun oJ68 h hJ68 => ?_
  refine AW.join (S := Api_NamesA) (fun e66_0 => [(2, .ptr 0 2 0 0), (3, .ptr 1 2 0 0)]) (fun e66_0 => [some ⟨2, [[.d (.val (.bool false)), .d (.val (.slice none 0 0))]]⟩, some ⟨2, [[.d (.val (.bool e66_0.all)), .d (slD strV e66_0.list)]]⟩]) (fun x => x = oJ68) ?_ ?_
  · refine AW.block ?_
    refine AW.iter (S := Int × Api_NamesA) (fun (i65_0, i65_1) => [(2, .ptr 0 2 0 0), (3, .ptr 1 2 0 0), (77, .d (slD NodeA.enc p0.kids)), (78, .d (.val (.int .i64 (p0.kids.length : Int)))), (79, .d (.val (.int .i64 i65_0)))]) (fun (i65_0, i65_1) => [some ⟨2, [[.d (.val (.bool false)), .d (.val (.slice none 0 0))]]⟩, some ⟨2, [[.d (.val (.bool i65_1.all)), .d (slD strV i65_1.list)]]⟩]) [0, 1] h (by simp only [go_sem, Nat.reduceEqDiff, Nat.reduceAdd, Nat.reduceSub, Nat.reduceMul, Nat.reduceLeDiff, Nat.reduceLT, Nat.reduceBEq, reduceIte]) ?_
    rintro again ⟨i65_0, i65_1⟩ h
    try dsimp only at h
    refine AW.op mixed ?_
    refine AW.kp [0, 1] [2, 3, 77, 78, 79, 80] ?_
    refine AW.one ?_
    refine AW.ts (decide (i65_0 < (p0.kids.length : Int))) (fun hb69 => ?_) (fun hb69 => ?_)
    · have h := ifT hb69 h
      refine AW.sk ?_
      refine AW.kp [0, 1] [2, 3, 77, 78, 79] ?_
      refine AW.one ?_
      refine AW.block ?_
      refine AW.one ?_
      refine AW.reg mixed (by kernel_rfl) ?_
      apply obindE h; intro x70 hx71 h
      try simp only [go_sem, Nat.reduceEqDiff, Nat.reduceAdd, Nat.reduceSub, Nat.reduceMul, Nat.reduceLeDiff, Nat.reduceLT, Nat.reduceBEq, reduceIte, (idx_some hx71).1, (idx_some hx71).2]
      refine AW.cut [0, 1, 4] [(2, .ptr 0 2 0 0), (3, .ptr 1 2 0 0), (5, .ptr 2 6 0 0), (77, .d (slD NodeA.enc p0.kids)), (78, .d (.val (.int .i64 (p0.kids.length : Int)))), (79, .d (.val (.int .i64 i65_0)))] [some ⟨2, [[.d (.val (.bool false)), .d (.val (.slice none 0 0))]]⟩, some ⟨2, [[.d (.val (.bool i65_1.all)), .d (slD strV i65_1.list)]]⟩, some ⟨6, [[.d (.val (.int .i64 x70.op)), .d (.val (.string x70.name)), .d (.val (.bool x70.num.neg)), .d (slD u32V x70.num.num), .d (slD u32V x70.num.den), .d (slD NodeA.enc x70.kids)]]⟩] (by simp only [go_sem, Nat.reduceEqDiff, Nat.reduceAdd, Nat.reduceSub, Nat.reduceMul, Nat.reduceLeDiff, Nat.reduceLT, Nat.reduceBEq, reduceIte, (idx_some hx71).1, (idx_some hx71).2]) ?_
      refine AW.rg mixed ?_
      apply obindE h; intro r72 hx73 h
      have hc := nx (hself47 _ _ hx73)
      refine callD hc ?_
      apply obindE h; intro r74 hx75 h
      have hc := nx (static_union_ok (h := hx75))
      refine callD hc ?_
      refine AW.kp [0, 1] [2, 3, 77, 78, 79] ?_
      refine AW.rg mixed ?_
      exact NextQ.ar (IntKind.wrap .i64 (i65_0 + (1 : Int)), r74) [0, 1] h
    have h := ifF hb69 h
    refine AW.ex ?_
    exact JoinQ.ar i65_1 [0, 1] (Option.some.inj h)
  rintro e66_0 rfl
  have h := hJ68
  try dsimp only [Out.fin] at h
  refine nz ?_
  refine AW.kp [0, 1] [2, 3] ?_
  refine AW.op mixed ?_
  refine AW.ret ?_
  obtain rfl := Option.some.inj h
  refine nz ?_
  exact .same _
def static_FreeOf (K : Nat) (p0 : NodeA) : Option Api_NamesA := iter K (fun self q => static_FreeOf_body K self q) p0
theorem key_static_FreeOf {K : Nat} (k : Nat) : (∀ (q : NodeA) (r : Api_NamesA), iter k (fun self q => static_FreeOf_body K self q) q = some r → Cn Try.prog 47 [aggV q.enc] (aggV r.enc)) := by
  induction k with
  | zero => exact fun q r h => by cases h
  | succ k ih => exact fun q r h => static_FreeOf_step K _ ih q r h
theorem static_FreeOf_ok {K : Nat} {p0 : NodeA} {r : Api_NamesA} (h : static_FreeOf K p0 = some r) : Cn Try.prog 47 [aggV p0.enc] (aggV r.enc) := (key_static_FreeOf K) p0 r h

end Go.Proofs.Ytcgphoghmgeecaa
namespace Go.Proofs.Ytcgphoghmgeecaa
open Go Go.Iso Go.Proofs
set_option linter.unusedSimpArgs false
set_option linter.unusedVariables false
set_option maxRecDepth 100000

/-! ### isochrone/static.Free -/
def static_Free (K : Nat) (p0 : NodeA) : Option (Api_NamesA × Int) := (static_check K p0).bind fun r1 => 
  if (r1 != (0 : Int)) then
    some ((Api_NamesA.mk false []), r1)
  else
    (static_FreeOf K p0).bind fun r4 => 
    some (r4, (0 : Int))
set_option maxHeartbeats 4000000 in
theorem static_Free_ok {K : Nat} {p0 : NodeA} {r : Api_NamesA × Int} (h : static_Free K p0 = some r) : Cn Try.prog 26 [aggV p0.enc] (.tup [aggV r.1.enc, .d (.val (.int .i64 r.2))]) := by
  refine Cn.ofA mixed Try.func26 rfl Try.call26 Try.ntmps26 Try.results26 (by simp) (by simp only [go_sem, Nat.reduceEqDiff, Nat.reduceAdd, Nat.reduceSub, Nat.reduceMul, Nat.reduceLeDiff, Nat.reduceLT, Nat.reduceBEq, reduceIte]) fun hfit => ?_
  unfold static_Free at h
  refine AW.kp [] [0] ?_
  refine AW.op mixed ?_
  refine AW.kp [0, 1] [1, 2] ?_
  refine AW.one ?_
  refine AW.op mixed ?_
  apply obindE h; intro r1 hx2 h
  have hc := nx (static_check_ok (h := hx2))
  refine callP hc ?_
  refine AW.kp [0, 1] [1, 2, 4] ?_
  refine AW.op mixed ?_
  refine AW.kp [0, 1] [1, 2, 4, 8] ?_
  refine AW.ts (r1 != (0 : Int)) (fun hb3 => ?_) (fun hb3 => ?_)
  · have h := ifT hb3 h
    refine AW.op mixed ?_
    refine AW.ret ?_
    obtain rfl := Option.some.inj h
    refine nz ?_
    exact .tupL ⟨.aggL ⟨.same _, .nil, trivial⟩, .same _, trivial⟩
  have h := ifF hb3 h
  refine AW.sk ?_
  refine AW.kp [0, 1] [1, 2] ?_
  refine AW.op mixed ?_
  apply obindE h; intro r4 hx5 h
  have hc := nx (static_FreeOf_ok (h := hx5))
  refine callP hc ?_
  refine AW.ret ?_
  obtain rfl := Option.some.inj h
  refine nz ?_
  exact .same _

end Go.Proofs.Ytcgphoghmgeecaa
namespace Go.Proofs.Ytcgphoghmgeecaa
open Go Go.Iso Go.Proofs
set_option linter.unusedSimpArgs false
set_option linter.unusedVariables false
set_option maxRecDepth 100000

/-! ### sort.SearchStrings$1 -/
def sort_SearchStrings_1 (K : Nat) (p0 : Int) (p1 : List ByteArray) (p2 : ByteArray) : Option Bool := (idx p1 p0).bind fun x1 => 
  some (!Op.bytesLess x1.toList p2.toList)
set_option maxHeartbeats 4000000 in
theorem sort_SearchStrings_1_ok {K : Nat} {p0 : Int} {p1 : List ByteArray} {p2 : ByteArray} {r : Bool} (h : sort_SearchStrings_1 K p0 p1 p2 = some r) : Cn Try.prog 52 [.d (.val (.int .i64 p0)), .iptr [slD strV p1], .iptr [.val (.string p2)]] (.d (.val (.bool r))) := by
  refine Cn.ofA mixed Try.func52 rfl Try.call52 Try.ntmps52 Try.results52 (by simp) (by simp only [go_sem, Nat.reduceEqDiff, Nat.reduceAdd, Nat.reduceSub, Nat.reduceMul, Nat.reduceLeDiff, Nat.reduceLT, Nat.reduceBEq, reduceIte]) fun hfit => ?_
  unfold sort_SearchStrings_1 at h
  refine AW.kp [] [0, 1, 2] ?_
  refine AW.op mixed ?_
  refine AW.kp [] [0, 1, 2] ?_
  refine AW.one ?_
  refine AW.reg mixed (by kernel_rfl) ?_
  apply obindE h; intro x1 hx2 h
  try simp only [go_sem, Nat.reduceEqDiff, Nat.reduceAdd, Nat.reduceSub, Nat.reduceMul, Nat.reduceLeDiff, Nat.reduceLT, Nat.reduceBEq, reduceIte, (idx_some hx2).1, (idx_some hx2).2]
  refine AW.ret ?_
  obtain rfl := Option.some.inj h
  refine nz ?_
  exact .same _

end Go.Proofs.Ytcgphoghmgeecaa
namespace Go.Proofs.Ytcgphoghmgeecaa
open Go Go.Iso Go.Proofs
set_option linter.unusedSimpArgs false
set_option linter.unusedVariables false
set_option maxRecDepth 100000

/-! ### sort.Search -/
def sort_Search_sort_SearchStrings_1 (K : Nat) (p0 : Int) (p1 : List ByteArray) (p2 : ByteArray) : Option Int := ((iter (S := Int × Int) (R := Int) K (fun again (i1_0, i1_1) => 
    if (decide (i1_0 < i1_1)) then
      (must (decide ((0 : Int) ≤ (1 : Int)))).bind fun _ => 
      (sort_SearchStrings_1 K (IntKind.wrap .i64 (bShr .u64 (IntKind.wrap .u64 (IntKind.wrap .i64 (i1_0 + i1_1))) (1 : Int))) p1 p2).bind fun r7 => 
      if (!r7) then
        again (IntKind.wrap .i64 ((IntKind.wrap .i64 (bShr .u64 (IntKind.wrap .u64 (IntKind.wrap .i64 (i1_0 + i1_1))) (1 : Int))) + (1 : Int)), i1_1)
      else
        again (i1_0, IntKind.wrap .i64 (bShr .u64 (IntKind.wrap .u64 (IntKind.wrap .i64 (i1_0 + i1_1))) (1 : Int)))
    else
      some i1_0) ((0 : Int), p0)) : Option Int).bind (fun e2_0 => 
  some e2_0)
set_option maxHeartbeats 4000000 in
theorem sort_Search_sort_SearchStrings_1_ok {K : Nat} {p0 : Int} {p1 : List ByteArray} {p2 : ByteArray} {r : Int} (h : sort_Search_sort_SearchStrings_1 K p0 p1 p2 = some r) : Cn Try.prog 51 [.d (.val (.int .i64 p0)), .fn 52 [.iptr [slD strV p1], .iptr [.val (.string p2)]]] (.d (.val (.int .i64 r))) := by
  refine Cn.ofA mixed Try.func51 rfl Try.call51 Try.ntmps51 Try.results51 (by simp) (by simp only [go_sem, Nat.reduceEqDiff, Nat.reduceAdd, Nat.reduceSub, Nat.reduceMul, Nat.reduceLeDiff, Nat.reduceLT, Nat.reduceBEq, reduceIte]) fun hfit => ?_
  unfold sort_Search_sort_SearchStrings_1 at h
  refine AW.kp [] [0, 1] ?_
  refine AW.op mixed ?_
  refine AW.kp [] [0, 1] ?_
  refine AW.op mixed ?_
  refine AW.kp [] [1, 5, 6] ?_
  refine AW.one ?_
  refine obindE h fun oJ4 h hJ4 => ?_
  refine AW.join (S := Int) (fun e2_0 => [(5, .d (.val (.int .i64 e2_0)))]) (fun e2_0 => []) (fun x => x = oJ4) ?_ ?_
  · refine AW.block ?_
    refine AW.iter (S := Int × Int) (fun (i1_0, i1_1) => [(1, .fn 52 [.iptr [slD strV p1], .iptr [.val (.string p2)]]), (5, .d (.val (.int .i64 i1_0))), (6, .d (.val (.int .i64 i1_1)))]) (fun (i1_0, i1_1) => []) [] h (by simp only [go_sem, Nat.reduceEqDiff, Nat.reduceAdd, Nat.reduceSub, Nat.reduceMul, Nat.reduceLeDiff, Nat.reduceLT, Nat.reduceBEq, reduceIte]) ?_
    rintro again ⟨i1_0, i1_1⟩ h
    try dsimp only at h
    refine AW.one ?_
    refine AW.op mixed ?_
    refine AW.kp [] [1, 5, 6, 11] ?_
    refine AW.ts (decide (i1_0 < i1_1)) (fun hb5 => ?_) (fun hb5 => ?_)
    · have h := ifT hb5 h
      refine AW.sk ?_
      refine AW.kp [] [1, 5, 6] ?_
      refine AW.block ?_
      refine AW.one ?_
      refine AW.reg mixed (by kernel_rfl) ?_
      apply obindE h; intro _ hx6 h
      try simp only [go_sem, Nat.reduceEqDiff, Nat.reduceAdd, Nat.reduceSub, Nat.reduceMul, Nat.reduceLeDiff, Nat.reduceLT, Nat.reduceBEq, reduceIte, cv_int (P := Try.prog) Try.underlying3 Try.underlying73, bop_shrO (P := Try.prog) hx6, cv_int (P := Try.prog) Try.underlying73 Try.underlying3]
      refine AW.cut [] [(1, .fn 52 [.iptr [slD strV p1], .iptr [.val (.string p2)]]), (5, .d (.val (.int .i64 i1_0))), (6, .d (.val (.int .i64 i1_1))), (7, .d (.val (.int .i64 (IntKind.wrap .i64 (bShr .u64 (IntKind.wrap .u64 (IntKind.wrap .i64 (i1_0 + i1_1))) (1 : Int))))))] [] (by simp only [go_sem, Nat.reduceEqDiff, Nat.reduceAdd, Nat.reduceSub, Nat.reduceMul, Nat.reduceLeDiff, Nat.reduceLT, Nat.reduceBEq, reduceIte, cv_int (P := Try.prog) Try.underlying3 Try.underlying73, bop_shrO (P := Try.prog) hx6, cv_int (P := Try.prog) Try.underlying73 Try.underlying3]) ?_
      refine AW.op mixed ?_
      apply obindE h; intro r7 hx8 h
      have hc := nx (sort_SearchStrings_1_ok (h := hx8))
      refine callP hc ?_
      refine AW.kp [] [1, 5, 6, 7, 21] ?_
      refine AW.ts (!r7) (fun hb9 => ?_) (fun hb9 => ?_)
      · have h := ifT hb9 h
        refine AW.rg mixed ?_
        exact NextQ.ar (IntKind.wrap .i64 ((IntKind.wrap .i64 (bShr .u64 (IntKind.wrap .u64 (IntKind.wrap .i64 (i1_0 + i1_1))) (1 : Int))) + (1 : Int)), i1_1) [] h
      have h := ifF hb9 h
      refine AW.rg mixed ?_
      exact NextQ.ar (i1_0, IntKind.wrap .i64 (bShr .u64 (IntKind.wrap .u64 (IntKind.wrap .i64 (i1_0 + i1_1))) (1 : Int))) [] h
    have h := ifF hb5 h
    refine AW.ex ?_
    exact JoinQ.ar i1_0 [] (Option.some.inj h)
  rintro e2_0 rfl
  have h := hJ4
  try dsimp only [Out.fin] at h
  refine nz ?_
  refine AW.kp [] [5] ?_
  refine AW.op mixed ?_
  refine AW.ret ?_
  obtain rfl := Option.some.inj h
  refine nz ?_
  exact .same _

end Go.Proofs.Ytcgphoghmgeecaa
namespace Go.Proofs.Ytcgphoghmgeecaa
open Go Go.Iso Go.Proofs
set_option linter.unusedSimpArgs false
set_option linter.unusedVariables false
set_option maxRecDepth 100000

/-! ### sort.SearchStrings -/
def sort_SearchStrings (K : Nat) (p0 : List ByteArray) (p1 : ByteArray) : Option Int := (sort_Search_sort_SearchStrings_1 K (p0.length : Int) p0 p1).bind fun r1 => 
  some r1
set_option maxHeartbeats 4000000 in
theorem sort_SearchStrings_ok {K : Nat} {p0 : List ByteArray} {p1 : ByteArray} {r : Int} (h : sort_SearchStrings K p0 p1 = some r) : Cn Try.prog 31 [.d (slD strV p0), .d (.val (.string p1))] (.d (.val (.int .i64 r))) := by
  refine Cn.ofA mixed Try.func31 rfl Try.call31 Try.ntmps31 Try.results31 (by simp) (by simp only [go_sem, Nat.reduceEqDiff, Nat.reduceAdd, Nat.reduceSub, Nat.reduceMul, Nat.reduceLeDiff, Nat.reduceLT, Nat.reduceBEq, reduceIte]) fun hfit => ?_
  unfold sort_SearchStrings at h
  refine AW.kp [] [0, 1] ?_
  refine AW.op mixed ?_
  refine AW.kp [0, 1] [2, 3] ?_
  refine AW.op mixed ?_
  apply obindE h; intro r1 hx2 h
  have hc := nx (sort_Search_sort_SearchStrings_1_ok (h := hx2))
  refine callK_look hc ⟨.same _, .fnL ⟨sealPtr (by simp only [go_sem, Nat.reduceEqDiff, Nat.reduceAdd, Nat.reduceSub, Nat.reduceMul, Nat.reduceLeDiff, Nat.reduceLT, Nat.reduceBEq, reduceIte]), sealPtr (by simp only [go_sem, Nat.reduceEqDiff, Nat.reduceAdd, Nat.reduceSub, Nat.reduceMul, Nat.reduceLeDiff, Nat.reduceLT, Nat.reduceBEq, reduceIte]), trivial⟩, trivial⟩ (by simp only [go_sem, Nat.reduceEqDiff, Nat.reduceAdd, Nat.reduceSub, Nat.reduceMul, Nat.reduceLeDiff, Nat.reduceLT, Nat.reduceBEq, reduceIte]) (by simp [V.flat, V.flatL]) ?_
  try simp only [go_sem, Nat.reduceEqDiff, Nat.reduceAdd, Nat.reduceSub, Nat.reduceMul, Nat.reduceLeDiff, Nat.reduceLT, Nat.reduceBEq, reduceIte]
  refine AW.ret ?_
  obtain rfl := Option.some.inj h
  refine nz ?_
  exact .same _

end Go.Proofs.Ytcgphoghmgeecaa
namespace Go.Proofs.Ytcgphoghmgeecaa
open Go Go.Iso Go.Proofs
set_option linter.unusedSimpArgs false
set_option linter.unusedVariables false
set_option maxRecDepth 100000

/-! ### isochrone/static.Has -/
def static_Has (K : Nat) (p0 : Api_NamesA) (p1 : ByteArray) : Option Bool := (sort_SearchStrings K p0.list p1).bind fun r1 => 
  if (decide (r1 < (p0.list.length : Int))) then
    (idx p0.list r1).bind fun x4 => 
    some (!((x4.toList == p1.toList) == p0.all))
  else
    some (!(false == p0.all))
set_option maxHeartbeats 4000000 in
theorem static_Has_ok {K : Nat} {p0 : Api_NamesA} {p1 : ByteArray} {r : Bool} (h : static_Has K p0 p1 = some r) : Cn Try.prog 10 [aggV p0.enc, .d (.val (.string p1))] (.d (.val (.bool r))) := by
  refine Cn.ofA mixed Try.func10 rfl Try.call10 Try.ntmps10 Try.results10 (by simp) (by simp only [go_sem, Nat.reduceEqDiff, Nat.reduceAdd, Nat.reduceSub, Nat.reduceMul, Nat.reduceLeDiff, Nat.reduceLT, Nat.reduceBEq, reduceIte]) fun hfit => ?_
  unfold static_Has at h
  refine AW.kp [] [0, 1] ?_
  refine AW.op mixed ?_
  refine AW.kp [0] [1, 2] ?_
  refine AW.op mixed ?_
  apply obindE h; intro r1 hx2 h
  have hc := nx (sort_SearchStrings_ok (h := hx2))
  refine callP hc ?_
  refine AW.kp [0] [1, 2, 5] ?_
  refine AW.op mixed ?_
  refine splitK_intro (fun hb3 => ?_) (fun hb3 => ?_)
  · have h := ifT hb3 h
    apply obindE h; intro x4 hx5 h
    try simp only [go_sem, Nat.reduceEqDiff, Nat.reduceAdd, Nat.reduceSub, Nat.reduceMul, Nat.reduceLeDiff, Nat.reduceLT, Nat.reduceBEq, reduceIte, hb3, (idx_some hx5).1, (idx_some hx5).2]
    refine AW.ret ?_
    obtain rfl := Option.some.inj h
    refine nz ?_
    exact .same _
  have h := ifF hb3 h
  try simp only [go_sem, Nat.reduceEqDiff, Nat.reduceAdd, Nat.reduceSub, Nat.reduceMul, Nat.reduceLeDiff, Nat.reduceLT, Nat.reduceBEq, reduceIte, hb3]
  refine AW.ret ?_
  obtain rfl := Option.some.inj h
  refine nz ?_
  exact .same _

end Go.Proofs.Ytcgphoghmgeecaa
namespace Go.Proofs.Ytcgphoghmgeecaa
open Go Go.Iso Go.Proofs
set_option linter.unusedSimpArgs false
set_option linter.unusedVariables false
set_option maxRecDepth 100000

/-! ### isochrone/static.variable -/
def static_variable (K : Nat) (p0 : ByteArray) : Option Bool := ((
    ((
      if (decide ((0 : Int) < (p0.size : Int))) then
        (strAt p0 (IntKind.wrap .i64 ((p0.size : Int) - (1 : Int)))).bind fun c6 => 
        some ((c6.toNat : Int) == (39 : Int))
      else
        some false) : Option Bool).bind (fun v3_0 => 
    if v3_0 then
      (cutStr p0 none (some (IntKind.wrap .i64 ((p0.size : Int) - (1 : Int))))).bind fun s9 => 
      some s9
    else
      some p0)) : Option ByteArray).bind (fun v1_0 => 
  (tree_Name K v1_0).bind fun r11 => 
  some r11)
set_option maxHeartbeats 4000000 in
theorem static_variable_ok {K : Nat} {p0 : ByteArray} {r : Bool} (h : static_variable K p0 = some r) : Cn Try.prog 29 [.d (.val (.string p0))] (.d (.val (.bool r))) := by
  refine Cn.ofA mixed Try.func29 rfl Try.call29 Try.ntmps29 Try.results29 (by simp) (by simp only [go_sem, Nat.reduceEqDiff, Nat.reduceAdd, Nat.reduceSub, Nat.reduceMul, Nat.reduceLeDiff, Nat.reduceLT, Nat.reduceBEq, reduceIte]) fun hfit => ?_
  unfold static_variable at h
  refine AW.kp [] [0] ?_
  refine AW.op mixed ?_
  refine AW.kp [] [0] ?_
  refine AW.one ?_
  refine obindE h fun oJ2 h hJ2 => ?_
  refine AW.join (S := ByteArray) (fun v1_0 => [(0, .d (.val (.string v1_0)))]) (fun v1_0 => []) (fun x => x = oJ2) ?_ ?_
  · skip
    refine AW.op mixed ?_
    refine AW.kp [] [0, 3] ?_
    refine AW.one ?_
    refine obindE h fun oJ4 h hJ4 => ?_
    refine AW.join (S := Bool) (fun v3_0 => [(0, .d (.val (.string p0))), (3, .d (.val (.int .i64 (p0.size : Int)))), (14, .d (.val (.bool v3_0)))]) (fun v3_0 => []) (fun x => x = oJ4) ?_ ?_
    · skip
      refine AW.rg mixed ?_
      refine splitK_intro (fun hb5 => ?_) (fun hb5 => ?_)
      · have h := ifT hb5 h
        apply obindE h; intro c6 hx7 h
        try simp only [go_sem, Nat.reduceEqDiff, Nat.reduceAdd, Nat.reduceSub, Nat.reduceMul, Nat.reduceLeDiff, Nat.reduceLT, Nat.reduceBEq, reduceIte, hb5, hx7]
        refine JoinQ.mk ((c6.toNat : Int) == (39 : Int)) [] (Option.some.inj h) (by simp only [go_sem, Nat.reduceEqDiff, Nat.reduceAdd, Nat.reduceSub, Nat.reduceMul, Nat.reduceLeDiff, Nat.reduceLT, Nat.reduceBEq, reduceIte, hb5, hx7])
      have h := ifF hb5 h
      try simp only [go_sem, Nat.reduceEqDiff, Nat.reduceAdd, Nat.reduceSub, Nat.reduceMul, Nat.reduceLeDiff, Nat.reduceLT, Nat.reduceBEq, reduceIte, hb5]
      refine JoinQ.mk false [] (Option.some.inj h) (by simp only [go_sem, Nat.reduceEqDiff, Nat.reduceAdd, Nat.reduceSub, Nat.reduceMul, Nat.reduceLeDiff, Nat.reduceLT, Nat.reduceBEq, reduceIte, hb5])
    rintro v3_0 rfl
    have h := hJ4
    try dsimp only [Out.fin] at h
    refine nz ?_
    refine AW.ts v3_0 (fun hb8 => ?_) (fun hb8 => ?_)
    · have h := ifT hb8 h
      refine AW.reg mixed (by kernel_rfl) ?_
      apply obindE h; intro s9 hx10 h
      try simp only [go_sem, Nat.reduceEqDiff, Nat.reduceAdd, Nat.reduceSub, Nat.reduceMul, Nat.reduceLeDiff, Nat.reduceLT, Nat.reduceBEq, reduceIte, hx10]
      refine JoinQ.mk s9 [] (Option.some.inj h) (by simp only [go_sem, Nat.reduceEqDiff, Nat.reduceAdd, Nat.reduceSub, Nat.reduceMul, Nat.reduceLeDiff, Nat.reduceLT, Nat.reduceBEq, reduceIte, hx10])
    have h := ifF hb8 h
    refine AW.sk ?_
    exact JoinQ.ar p0 [] (Option.some.inj h)
  rintro v1_0 rfl
  have h := hJ2
  try dsimp only [Out.fin] at h
  refine nz ?_
  refine AW.op mixed ?_
  apply obindE h; intro r11 hx12 h
  have hc := nx (tree_Name_ok (h := hx12))
  refine callP hc ?_
  refine AW.ret ?_
  obtain rfl := Option.some.inj h
  refine nz ?_
  exact .same _

end Go.Proofs.Ytcgphoghmgeecaa
namespace Go.Proofs.Ytcgphoghmgeecaa
open Go Go.Iso Go.Proofs
set_option linter.unusedSimpArgs false
set_option linter.unusedVariables false
set_option maxRecDepth 100000

/-! ### isochrone/static.Valid -/
def static_Valid (K : Nat) (p0 : Api_NamesA) : Option Bool := ((iter (S := Int) (R := Out Unit _) K (fun again i1_0 => 
    if (decide (i1_0 < (p0.list.length : Int))) then
      ((
        (idx p0.list i1_0).bind fun x8 => 
        ((
          (static_variable K x8).bind fun r12 => 
          if (!r12) then
            some true
          else
            if (decide ((0 : Int) < i1_0)) then
              (idx p0.list (IntKind.wrap .i64 (i1_0 - (1 : Int)))).bind fun x16 => 
              some (!Op.bytesLess x16.toList x8.toList)
            else
              some false) : Option Bool).bind (fun v10_0 => 
        if v10_0 then
          outM (
            outM (
              some false))
        else
          some (.go ()))) : Option (Out Unit _)).bind (Out.fin fun _ => 
      again (IntKind.wrap .i64 (i1_0 + (1 : Int))))
    else
      some (.go ())) (0 : Int)) : Option (Out Unit _)).bind (Out.fin fun _ => 
  some true)
set_option maxHeartbeats 4000000 in
theorem static_Valid_ok {K : Nat} {p0 : Api_NamesA} {r : Bool} (h : static_Valid K p0 = some r) : Cn Try.prog 8 [aggV p0.enc] (.d (.val (.bool r))) := by
  refine Cn.ofA mixed Try.func8 rfl Try.call8 Try.ntmps8 Try.results8 (by simp) (by simp only [go_sem, Nat.reduceEqDiff, Nat.reduceAdd, Nat.reduceSub, Nat.reduceMul, Nat.reduceLeDiff, Nat.reduceLT, Nat.reduceBEq, reduceIte]) fun hfit => ?_
  unfold static_Valid at h
  refine AW.kp [] [0] ?_
  refine AW.op mixed ?_
  refine AW.kp [0] [1] ?_
  refine AW.one ?_
  refine AW.op mixed ?_
  refine AW.kp [0] [1, 6, 7, 8] ?_
  refine obindE h fun oJ4 h hJ4 => ?_
  refine AW.join (S := Unit) (fun _ => []) (fun _ => []) (fun x => oJ4 = .go x) ?_ ?_
  · refine AW.block ?_
    refine AW.iter (S := Int) (fun i1_0 => [(1, .ptr 0 2 0 0), (6, .d (slD strV p0.list)), (7, .d (.val (.int .i64 (p0.list.length : Int)))), (8, .d (.val (.int .i64 i1_0)))]) (fun i1_0 => [some ⟨2, [[.d (.val (.bool p0.all)), .d (slD strV p0.list)]]⟩]) [0] h (by simp only [go_sem, Nat.reduceEqDiff, Nat.reduceAdd, Nat.reduceSub, Nat.reduceMul, Nat.reduceLeDiff, Nat.reduceLT, Nat.reduceBEq, reduceIte]) ?_
    rintro again i1_0 h
    try dsimp only at h
    refine AW.op mixed ?_
    refine AW.kp [0] [1, 6, 7, 8, 9] ?_
    refine AW.one ?_
    refine AW.ts (decide (i1_0 < (p0.list.length : Int))) (fun hb5 => ?_) (fun hb5 => ?_)
    · have h := ifT hb5 h
      refine AW.sk ?_
      refine AW.kp [0] [1, 6, 7, 8] ?_
      refine AW.one ?_
      refine obindE h fun oJ7 h hJ7 => ?_
      refine AW.join (S := Unit) (fun _ => [(1, .ptr 0 2 0 0), (6, .d (slD strV p0.list)), (7, .d (.val (.int .i64 (p0.list.length : Int)))), (8, .d (.val (.int .i64 i1_0)))]) (fun _ => [some ⟨2, [[.d (.val (.bool p0.all)), .d (slD strV p0.list)]]⟩]) (fun x => oJ7 = .go x) ?_ ?_
      · skip
        refine AW.block ?_
        refine AW.one ?_
        refine AW.reg mixed (by kernel_rfl) ?_
        apply obindE h; intro x8 hx9 h
        try simp only [go_sem, Nat.reduceEqDiff, Nat.reduceAdd, Nat.reduceSub, Nat.reduceMul, Nat.reduceLeDiff, Nat.reduceLT, Nat.reduceBEq, reduceIte, (idx_some hx9).1, (idx_some hx9).2]
        refine AW.cut [0] [(1, .ptr 0 2 0 0), (3, .d (.val (.int .i64 i1_0))), (4, .d (.val (.string x8))), (6, .d (slD strV p0.list)), (7, .d (.val (.int .i64 (p0.list.length : Int)))), (8, .d (.val (.int .i64 i1_0)))] [some ⟨2, [[.d (.val (.bool p0.all)), .d (slD strV p0.list)]]⟩] (by simp only [go_sem, Nat.reduceEqDiff, Nat.reduceAdd, Nat.reduceSub, Nat.reduceMul, Nat.reduceLeDiff, Nat.reduceLT, Nat.reduceBEq, reduceIte, (idx_some hx9).1, (idx_some hx9).2]) ?_
        refine AW.one ?_
        refine obindE h fun oJ11 h hJ11 => ?_
        refine AW.join (S := Bool) (fun v10_0 => [(1, .ptr 0 2 0 0), (6, .d (slD strV p0.list)), (7, .d (.val (.int .i64 (p0.list.length : Int)))), (8, .d (.val (.int .i64 i1_0))), (29, .d (.val (.bool v10_0)))]) (fun v10_0 => [some ⟨2, [[.d (.val (.bool p0.all)), .d (slD strV p0.list)]]⟩]) (fun x => x = oJ11) ?_ ?_
        · skip
          refine AW.rg mixed ?_
          apply obindE h; intro r12 hx13 h
          have hc := nx (static_variable_ok (h := hx13))
          refine callP hc ?_
          refine splitK_intro (fun hb14 => ?_) (fun hb14 => ?_)
          · have h := ifT hb14 h
            try simp only [go_sem, Nat.reduceEqDiff, Nat.reduceAdd, Nat.reduceSub, Nat.reduceMul, Nat.reduceLeDiff, Nat.reduceLT, Nat.reduceBEq, reduceIte, hb14]
            refine JoinQ.mk true [0] (Option.some.inj h) (by simp only [go_sem, Nat.reduceEqDiff, Nat.reduceAdd, Nat.reduceSub, Nat.reduceMul, Nat.reduceLeDiff, Nat.reduceLT, Nat.reduceBEq, reduceIte, hb14])
          have h := ifF hb14 h
          try simp only [go_sem, Nat.reduceEqDiff, Nat.reduceAdd, Nat.reduceSub, Nat.reduceMul, Nat.reduceLeDiff, Nat.reduceLT, Nat.reduceBEq, reduceIte, hb14]
          refine splitK_intro (fun hb15 => ?_) (fun hb15 => ?_)
          · have h := ifT hb15 h
            apply obindE h; intro x16 hx17 h
            try simp only [go_sem, Nat.reduceEqDiff, Nat.reduceAdd, Nat.reduceSub, Nat.reduceMul, Nat.reduceLeDiff, Nat.reduceLT, Nat.reduceBEq, reduceIte, hb14, hb15, (idx_some hx17).1, (idx_some hx17).2]
            refine JoinQ.mk (!Op.bytesLess x16.toList x8.toList) [0] (Option.some.inj h) (by simp only [go_sem, Nat.reduceEqDiff, Nat.reduceAdd, Nat.reduceSub, Nat.reduceMul, Nat.reduceLeDiff, Nat.reduceLT, Nat.reduceBEq, reduceIte, hb14, hb15, (idx_some hx17).1, (idx_some hx17).2])
          have h := ifF hb15 h
          try simp only [go_sem, Nat.reduceEqDiff, Nat.reduceAdd, Nat.reduceSub, Nat.reduceMul, Nat.reduceLeDiff, Nat.reduceLT, Nat.reduceBEq, reduceIte, hb14, hb15]
          refine JoinQ.mk false [0] (Option.some.inj h) (by simp only [go_sem, Nat.reduceEqDiff, Nat.reduceAdd, Nat.reduceSub, Nat.reduceMul, Nat.reduceLeDiff, Nat.reduceLT, Nat.reduceBEq, reduceIte, hb14, hb15])
        rintro v10_0 rfl
        have h := hJ11
        try dsimp only [Out.fin] at h
        refine nz ?_
        refine AW.ts v10_0 (fun hb18 => ?_) (fun hb18 => ?_)
        · have h := ifT hb18 h
          refine AW.op mixed ?_
          refine AW.ret ?_
          obtain ⟨_, h, ho⟩ := outM_some h
          rw [ho, Out.fin_out] at hJ7
          have h := h.trans hJ7
          obtain ⟨_, h, ho⟩ := outM_some h
          rw [ho, Out.fin_out] at hJ4
          have h := h.trans hJ4
          obtain rfl := Option.some.inj h
          refine nz ?_
          exact .same _
        have h := ifF hb18 h
        refine AW.sk ?_
        exact JoinQ.ar () [0] (Option.some.inj h).symm
      rintro ⟨⟩ rfl
      have h := hJ7
      try dsimp only [Out.fin] at h
      refine nz ?_
      refine AW.rg mixed ?_
      exact NextQ.ar (IntKind.wrap .i64 (i1_0 + (1 : Int))) [0] h
    have h := ifF hb5 h
    refine AW.ex ?_
    exact JoinQ.ar () [] (Option.some.inj h).symm
  rintro ⟨⟩ rfl
  have h := hJ4
  try dsimp only [Out.fin] at h
  refine nz ?_
  refine AW.kp [] [] ?_
  refine AW.op mixed ?_
  refine AW.ret ?_
  obtain rfl := Option.some.inj h
  refine nz ?_
  exact .same _

end Go.Proofs.Ytcgphoghmgeecaa
namespace Go.Proofs.Ytcgphoghmgeecaa
open Go Go.Iso Go.Proofs
set_option linter.unusedSimpArgs false
set_option linter.unusedVariables false
set_option maxRecDepth 100000

/-! ### isochrone/isochronelaw10.awake -/
def law10_awake (K : Nat)  : Option Bool := (static_Free K (NodeA.mk (50 : Int) (⟨#[120]⟩ : ByteArray) (RatA.mk false [] []) [(NodeA.mk (2 : Int) (⟨#[121]⟩ : ByteArray) (RatA.mk false [] []) [])])).bind fun r1 => 
  (static_Bound K (NodeA.mk (50 : Int) (⟨#[120]⟩ : ByteArray) (RatA.mk false [] []) [(NodeA.mk (2 : Int) (⟨#[121]⟩ : ByteArray) (RatA.mk false [] []) [])])).bind fun r3 => 
  if (r1.2 == (0 : Int)) then
    if (r3.2 == (0 : Int)) then
      (static_Has K r1.1 (⟨#[121]⟩ : ByteArray)).bind fun r7 => 
      if r7 then
        (static_Has K r1.1 (⟨#[120]⟩ : ByteArray)).bind fun r10 => 
        if (!r10) then
          (static_Has K r3.1 (⟨#[120]⟩ : ByteArray)).bind fun r13 => 
          if r13 then
            (static_Valid K r1.1).bind fun r16 => 
            some r16
          else
            some false
        else
          some false
      else
        some false
    else
      some false
  else
    some false
set_option maxHeartbeats 4000000 in
theorem law10_awake_ok {K : Nat}  {r : Bool} (h : law10_awake K  = some r) : Cn Try.prog 7 [] (.d (.val (.bool r))) := by
  refine Cn.ofA mixed Try.func7 rfl Try.call7 Try.ntmps7 Try.results7 (by simp) (by simp only [go_sem, Nat.reduceEqDiff, Nat.reduceAdd, Nat.reduceSub, Nat.reduceMul, Nat.reduceLeDiff, Nat.reduceLT, Nat.reduceBEq, reduceIte]) fun hfit => ?_
  unfold law10_awake at h
  refine AW.kp [] [] ?_
  refine AW.op mixed ?_
  refine AW.kp [] [] ?_
  refine AW.op mixed ?_
  refine AW.kp [3] [1] ?_
  refine AW.op mixed ?_
  apply obindE h; intro r1 hx2 h
  have hc := static_Free_ok (h := hx2)
  try simp only [slD, NodeA.enc_eta, RatA.enc_eta, NodeA.op_mk, NodeA.name_mk, NodeA.num_mk, NodeA.kids_mk, aggV, i64V, u32V, strV, List.map_cons, List.map_nil] at hc
  refine callK_conv hc ⟨.aggL ⟨.same _, .same _, .same _, .nil, .nil, .d (.dn (.rows ⟨⟨.refl _, .refl _, .refl _, .nil _ _, .nil _ _, .nil _ _, trivial⟩, trivial⟩)), trivial⟩, trivial⟩ (by simp only [go_sem, Nat.reduceEqDiff, Nat.reduceAdd, Nat.reduceSub, Nat.reduceMul, Nat.reduceLeDiff, Nat.reduceLT, Nat.reduceBEq, reduceIte]) ?_
  try simp only [go_sem, Nat.reduceEqDiff, Nat.reduceAdd, Nat.reduceSub, Nat.reduceMul, Nat.reduceLeDiff, Nat.reduceLT, Nat.reduceBEq, reduceIte]
  refine AW.kp [0, 6] [1, 2, 3] ?_
  refine AW.op mixed ?_
  apply obindE h; intro r3 hx4 h
  have hc := static_Bound_ok (h := hx4)
  try simp only [slD, NodeA.enc_eta, RatA.enc_eta, NodeA.op_mk, NodeA.name_mk, NodeA.num_mk, NodeA.kids_mk, aggV, i64V, u32V, strV, List.map_cons, List.map_nil] at hc
  refine callK_conv hc ⟨.aggL ⟨.same _, .same _, .same _, .nil, .nil, .d (.dn (.rows ⟨⟨.refl _, .refl _, .refl _, .nil _ _, .nil _ _, .nil _ _, trivial⟩, trivial⟩)), trivial⟩, trivial⟩ (by simp only [go_sem, Nat.reduceEqDiff, Nat.reduceAdd, Nat.reduceSub, Nat.reduceMul, Nat.reduceLeDiff, Nat.reduceLT, Nat.reduceBEq, reduceIte]) ?_
  try simp only [go_sem, Nat.reduceEqDiff, Nat.reduceAdd, Nat.reduceSub, Nat.reduceMul, Nat.reduceLeDiff, Nat.reduceLT, Nat.reduceBEq, reduceIte]
  refine AW.kp [1, 7] [2, 3, 4, 5] ?_
  refine AW.op mixed ?_
  refine splitK_intro (fun hb5 => ?_) (fun hb5 => ?_)
  · have h := ifT hb5 h
    try simp only [go_sem, Nat.reduceEqDiff, Nat.reduceAdd, Nat.reduceSub, Nat.reduceMul, Nat.reduceLeDiff, Nat.reduceLT, Nat.reduceBEq, reduceIte, hb5]
    refine splitK_intro (fun hb6 => ?_) (fun hb6 => ?_)
    · have h := ifT hb6 h
      try simp only [go_sem, Nat.reduceEqDiff, Nat.reduceAdd, Nat.reduceSub, Nat.reduceMul, Nat.reduceLeDiff, Nat.reduceLT, Nat.reduceBEq, reduceIte, hb5, hb6]
      apply obindE h; intro r7 hx8 h
      have hc := nx (static_Has_ok (h := hx8))
      refine callK_pure hc (by simp only [go_sem, Nat.reduceEqDiff, Nat.reduceAdd, Nat.reduceSub, Nat.reduceMul, Nat.reduceLeDiff, Nat.reduceLT, Nat.reduceBEq, reduceIte]) ?_
      try simp only [go_sem, Nat.reduceEqDiff, Nat.reduceAdd, Nat.reduceSub, Nat.reduceMul, Nat.reduceLeDiff, Nat.reduceLT, Nat.reduceBEq, reduceIte, hb5, hb6]
      refine splitK_intro (fun hb9 => ?_) (fun hb9 => ?_)
      · have h := ifT hb9 h
        try simp only [go_sem, Nat.reduceEqDiff, Nat.reduceAdd, Nat.reduceSub, Nat.reduceMul, Nat.reduceLeDiff, Nat.reduceLT, Nat.reduceBEq, reduceIte, hb5, hb6, hb9]
        apply obindE h; intro r10 hx11 h
        have hc := nx (static_Has_ok (h := hx11))
        refine callK_pure hc (by simp only [go_sem, Nat.reduceEqDiff, Nat.reduceAdd, Nat.reduceSub, Nat.reduceMul, Nat.reduceLeDiff, Nat.reduceLT, Nat.reduceBEq, reduceIte]) ?_
        try simp only [go_sem, Nat.reduceEqDiff, Nat.reduceAdd, Nat.reduceSub, Nat.reduceMul, Nat.reduceLeDiff, Nat.reduceLT, Nat.reduceBEq, reduceIte, hb5, hb6, hb9]
        refine splitK_intro (fun hb12 => ?_) (fun hb12 => ?_)
        · have h := ifT hb12 h
          try simp only [go_sem, Nat.reduceEqDiff, Nat.reduceAdd, Nat.reduceSub, Nat.reduceMul, Nat.reduceLeDiff, Nat.reduceLT, Nat.reduceBEq, reduceIte, hb5, hb6, hb9, hb12]
          apply obindE h; intro r13 hx14 h
          have hc := nx (static_Has_ok (h := hx14))
          refine callK_pure hc (by simp only [go_sem, Nat.reduceEqDiff, Nat.reduceAdd, Nat.reduceSub, Nat.reduceMul, Nat.reduceLeDiff, Nat.reduceLT, Nat.reduceBEq, reduceIte]) ?_
          try simp only [go_sem, Nat.reduceEqDiff, Nat.reduceAdd, Nat.reduceSub, Nat.reduceMul, Nat.reduceLeDiff, Nat.reduceLT, Nat.reduceBEq, reduceIte, hb5, hb6, hb9, hb12]
          refine splitK_intro (fun hb15 => ?_) (fun hb15 => ?_)
          · have h := ifT hb15 h
            try simp only [go_sem, Nat.reduceEqDiff, Nat.reduceAdd, Nat.reduceSub, Nat.reduceMul, Nat.reduceLeDiff, Nat.reduceLT, Nat.reduceBEq, reduceIte, hb5, hb6, hb9, hb12, hb15]
            apply obindE h; intro r16 hx17 h
            have hc := nx (static_Valid_ok (h := hx17))
            refine callK_pure hc (by simp only [go_sem, Nat.reduceEqDiff, Nat.reduceAdd, Nat.reduceSub, Nat.reduceMul, Nat.reduceLeDiff, Nat.reduceLT, Nat.reduceBEq, reduceIte]) ?_
            try simp only [go_sem, Nat.reduceEqDiff, Nat.reduceAdd, Nat.reduceSub, Nat.reduceMul, Nat.reduceLeDiff, Nat.reduceLT, Nat.reduceBEq, reduceIte, hb5, hb6, hb9, hb12, hb15]
            refine AW.ret ?_
            obtain rfl := Option.some.inj h
            refine nz ?_
            exact .same _
          have h := ifF hb15 h
          try simp only [go_sem, Nat.reduceEqDiff, Nat.reduceAdd, Nat.reduceSub, Nat.reduceMul, Nat.reduceLeDiff, Nat.reduceLT, Nat.reduceBEq, reduceIte, hb5, hb6, hb9, hb12, hb15]
          refine AW.ret ?_
          obtain rfl := Option.some.inj h
          refine nz ?_
          exact .same _
        have h := ifF hb12 h
        try simp only [go_sem, Nat.reduceEqDiff, Nat.reduceAdd, Nat.reduceSub, Nat.reduceMul, Nat.reduceLeDiff, Nat.reduceLT, Nat.reduceBEq, reduceIte, hb5, hb6, hb9, hb12]
        refine AW.ret ?_
        obtain rfl := Option.some.inj h
        refine nz ?_
        exact .same _
      have h := ifF hb9 h
      try simp only [go_sem, Nat.reduceEqDiff, Nat.reduceAdd, Nat.reduceSub, Nat.reduceMul, Nat.reduceLeDiff, Nat.reduceLT, Nat.reduceBEq, reduceIte, hb5, hb6, hb9]
      refine AW.ret ?_
      obtain rfl := Option.some.inj h
      refine nz ?_
      exact .same _
    have h := ifF hb6 h
    try simp only [go_sem, Nat.reduceEqDiff, Nat.reduceAdd, Nat.reduceSub, Nat.reduceMul, Nat.reduceLeDiff, Nat.reduceLT, Nat.reduceBEq, reduceIte, hb5, hb6]
    refine AW.ret ?_
    obtain rfl := Option.some.inj h
    refine nz ?_
    exact .same _
  have h := ifF hb5 h
  try simp only [go_sem, Nat.reduceEqDiff, Nat.reduceAdd, Nat.reduceSub, Nat.reduceMul, Nat.reduceLeDiff, Nat.reduceLT, Nat.reduceBEq, reduceIte, hb5]
  refine AW.ret ?_
  obtain rfl := Option.some.inj h
  refine nz ?_
  exact .same _

end Go.Proofs.Ytcgphoghmgeecaa
namespace Go.Proofs.Ytcgphoghmgeecaa
open Go Go.Iso Go.Proofs
set_option linter.unusedSimpArgs false
set_option linter.unusedVariables false
set_option maxRecDepth 100000

/-! ### isochrone/isochroneref08.Levels -/
def r08_Levels_body (K : Nat) (self40 : NodeA → Option Int) (p0 : NodeA) : Option Int := ((iter (S := Int × Int) (R := Int) K (fun again (i1_0, i1_1) => 
    if (decide (i1_1 < (p0.kids.length : Int))) then
      (idx p0.kids i1_1).bind fun x6 => 
      (self40 (x6)).bind fun r8 => 
      again ((if r8 > i1_0 then r8 else i1_0), IntKind.wrap .i64 (i1_1 + (1 : Int)))
    else
      some i1_0) ((0 : Int), (0 : Int))) : Option Int).bind (fun e2_0 => 
  some (IntKind.wrap .i64 (e2_0 + (1 : Int))))
set_option maxHeartbeats 4000000 in
theorem r08_Levels_step (K : Nat) (self40 : NodeA → Option Int) (hself40 : ∀ (q : NodeA) (r : Int), self40 q = some r → Cn Try.prog 40 [aggV q.enc] (.d (.val (.int .i64 r)))) (p0 : NodeA) (r : Int) (h : r08_Levels_body K self40 p0 = some r) : Cn Try.prog 40 [aggV p0.enc] (.d (.val (.int .i64 r))) := by
  refine Cn.ofA mixed Try.func40 rfl Try.call40 Try.ntmps40 Try.results40 (by simp) (by simp only [go_sem, Nat.reduceEqDiff, Nat.reduceAdd, Nat.reduceSub, Nat.reduceMul, Nat.reduceLeDiff, Nat.reduceLT, Nat.reduceBEq, reduceIte]) fun hfit => ?_
  unfold r08_Levels_body at h
  refine AW.kp [] [0] ?_
  refine AW.op mixed ?_
  refine AW.kp [0] [1] ?_
  refine AW.op mixed ?_
  refine AW.kp [0] [1, 3] ?_
  refine AW.one ?_
  refine AW.op mixed ?_
  refine AW.kp [0] [1, 3, 4] ?_
  refine obindE h fun oJ4 h hJ4 => ?_
  refine AW.join (S := Int) (fun e2_0 => [(3, .d (.val (.int .i64 e2_0)))]) (fun e2_0 => []) (fun x => x = oJ4) ?_ ?_
  · refine AW.block ?_
    refine AW.iter (S := Int × Int) (fun (i1_0, i1_1) => [(1, .ptr 0 6 0 0), (3, .d (.val (.int .i64 i1_0))), (4, .d (.val (.int .i64 i1_1)))]) (fun (i1_0, i1_1) => [some ⟨6, [[.d (.val (.int .i64 p0.op)), .d (.val (.string p0.name)), .d (.val (.bool p0.num.neg)), .d (slD u32V p0.num.num), .d (slD u32V p0.num.den), .d (slD NodeA.enc p0.kids)]]⟩]) [0] h (by simp only [go_sem, Nat.reduceEqDiff, Nat.reduceAdd, Nat.reduceSub, Nat.reduceMul, Nat.reduceLeDiff, Nat.reduceLT, Nat.reduceBEq, reduceIte]) ?_
    rintro again ⟨i1_0, i1_1⟩ h
    try dsimp only at h
    refine AW.one ?_
    refine AW.op mixed ?_
    refine AW.kp [0] [1, 3, 4, 9] ?_
    refine AW.ts (decide (i1_1 < (p0.kids.length : Int))) (fun hb5 => ?_) (fun hb5 => ?_)
    · have h := ifT hb5 h
      refine AW.sk ?_
      refine AW.kp [0] [1, 3, 4] ?_
      refine AW.one ?_
      refine AW.block ?_
      refine AW.reg mixed (by kernel_rfl) ?_
      apply obindE h; intro x6 hx7 h
      try simp only [go_sem, Nat.reduceEqDiff, Nat.reduceAdd, Nat.reduceSub, Nat.reduceMul, Nat.reduceLeDiff, Nat.reduceLT, Nat.reduceBEq, reduceIte, (idx_some hx7).1, (idx_some hx7).2]
      apply obindE h; intro r8 hx9 h
      have hc := nx (hself40 _ _ hx9)
      refine callK_pure hc (by simp only [go_sem, Nat.reduceEqDiff, Nat.reduceAdd, Nat.reduceSub, Nat.reduceMul, Nat.reduceLeDiff, Nat.reduceLT, Nat.reduceBEq, reduceIte]) ?_
      try simp only [go_sem, Nat.reduceEqDiff, Nat.reduceAdd, Nat.reduceSub, Nat.reduceMul, Nat.reduceLeDiff, Nat.reduceLT, Nat.reduceBEq, reduceIte, (idx_some hx7).1, (idx_some hx7).2]
      refine AW.cut [0] [(1, .ptr 0 6 0 0), (3, .d (.val (.int .i64 (if r8 > i1_0 then r8 else i1_0)))), (4, .d (.val (.int .i64 i1_1)))] [some ⟨6, [[.d (.val (.int .i64 p0.op)), .d (.val (.string p0.name)), .d (.val (.bool p0.num.neg)), .d (slD u32V p0.num.num), .d (slD u32V p0.num.den), .d (slD NodeA.enc p0.kids)]]⟩] (by simp only [go_sem, Nat.reduceEqDiff, Nat.reduceAdd, Nat.reduceSub, Nat.reduceMul, Nat.reduceLeDiff, Nat.reduceLT, Nat.reduceBEq, reduceIte, (idx_some hx7).1, (idx_some hx7).2]) ?_
      refine AW.rg mixed ?_
      exact NextQ.ar ((if r8 > i1_0 then r8 else i1_0), IntKind.wrap .i64 (i1_1 + (1 : Int))) [0] h
    have h := ifF hb5 h
    refine AW.ex ?_
    exact JoinQ.ar i1_0 [] (Option.some.inj h)
  rintro e2_0 rfl
  have h := hJ4
  try dsimp only [Out.fin] at h
  refine nz ?_
  refine AW.kp [] [3] ?_
  refine AW.op mixed ?_
  refine AW.ret ?_
  obtain rfl := Option.some.inj h
  refine nz ?_
  exact .same _
def r08_Levels (K : Nat) (p0 : NodeA) : Option Int := iter K (fun self q => r08_Levels_body K self q) p0
theorem key_r08_Levels {K : Nat} (k : Nat) : (∀ (q : NodeA) (r : Int), iter k (fun self q => r08_Levels_body K self q) q = some r → Cn Try.prog 40 [aggV q.enc] (.d (.val (.int .i64 r)))) := by
  induction k with
  | zero => exact fun q r h => by cases h
  | succ k ih => exact fun q r h => r08_Levels_step K _ ih q r h
theorem r08_Levels_ok {K : Nat} {p0 : NodeA} {r : Int} (h : r08_Levels K p0 = some r) : Cn Try.prog 40 [aggV p0.enc] (.d (.val (.int .i64 r))) := (key_r08_Levels K) p0 r h

end Go.Proofs.Ytcgphoghmgeecaa
namespace Go.Proofs.Ytcgphoghmgeecaa
open Go Go.Iso Go.Proofs
set_option linter.unusedSimpArgs false
set_option linter.unusedVariables false
set_option maxRecDepth 100000

/-! ### isochrone/isochroneref08.Size -/
def r08_Size_body (K : Nat) (self21 : NodeA → Option Int) (p0 : NodeA) : Option Int := ((iter (S := Int × Int) (R := Int) K (fun again (i1_0, i1_1) => 
    if (decide (i1_1 < (p0.kids.length : Int))) then
      (idx p0.kids i1_1).bind fun x6 => 
      (self21 (x6)).bind fun r8 => 
      again (IntKind.wrap .i64 (i1_0 + r8), IntKind.wrap .i64 (i1_1 + (1 : Int)))
    else
      some i1_0) ((1 : Int), (0 : Int))) : Option Int).bind (fun e2_0 => 
  some e2_0)
set_option maxHeartbeats 4000000 in
theorem r08_Size_step (K : Nat) (self21 : NodeA → Option Int) (hself21 : ∀ (q : NodeA) (r : Int), self21 q = some r → Cn Try.prog 21 [aggV q.enc] (.d (.val (.int .i64 r)))) (p0 : NodeA) (r : Int) (h : r08_Size_body K self21 p0 = some r) : Cn Try.prog 21 [aggV p0.enc] (.d (.val (.int .i64 r))) := by
  refine Cn.ofA mixed Try.func21 rfl Try.call21 Try.ntmps21 Try.results21 (by simp) (by simp only [go_sem, Nat.reduceEqDiff, Nat.reduceAdd, Nat.reduceSub, Nat.reduceMul, Nat.reduceLeDiff, Nat.reduceLT, Nat.reduceBEq, reduceIte]) fun hfit => ?_
  unfold r08_Size_body at h
  refine AW.kp [] [0] ?_
  refine AW.op mixed ?_
  refine AW.kp [0] [1] ?_
  refine AW.op mixed ?_
  refine AW.kp [0] [1, 3] ?_
  refine AW.one ?_
  refine AW.op mixed ?_
  refine AW.kp [0] [1, 3, 4] ?_
  refine obindE h fun oJ4 h hJ4 => ?_
  refine AW.join (S := Int) (fun e2_0 => [(3, .d (.val (.int .i64 e2_0)))]) (fun e2_0 => []) (fun x => x = oJ4) ?_ ?_
  · refine AW.block ?_
    refine AW.iter (S := Int × Int) (fun (i1_0, i1_1) => [(1, .ptr 0 6 0 0), (3, .d (.val (.int .i64 i1_0))), (4, .d (.val (.int .i64 i1_1)))]) (fun (i1_0, i1_1) => [some ⟨6, [[.d (.val (.int .i64 p0.op)), .d (.val (.string p0.name)), .d (.val (.bool p0.num.neg)), .d (slD u32V p0.num.num), .d (slD u32V p0.num.den), .d (slD NodeA.enc p0.kids)]]⟩]) [0] h (by simp only [go_sem, Nat.reduceEqDiff, Nat.reduceAdd, Nat.reduceSub, Nat.reduceMul, Nat.reduceLeDiff, Nat.reduceLT, Nat.reduceBEq, reduceIte]) ?_
    rintro again ⟨i1_0, i1_1⟩ h
    try dsimp only at h
    refine AW.one ?_
    refine AW.op mixed ?_
    refine AW.kp [0] [1, 3, 4, 9] ?_
    refine AW.ts (decide (i1_1 < (p0.kids.length : Int))) (fun hb5 => ?_) (fun hb5 => ?_)
    · have h := ifT hb5 h
      refine AW.sk ?_
      refine AW.kp [0] [1, 3, 4] ?_
      refine AW.one ?_
      refine AW.block ?_
      refine AW.reg mixed (by kernel_rfl) ?_
      apply obindE h; intro x6 hx7 h
      try simp only [go_sem, Nat.reduceEqDiff, Nat.reduceAdd, Nat.reduceSub, Nat.reduceMul, Nat.reduceLeDiff, Nat.reduceLT, Nat.reduceBEq, reduceIte, (idx_some hx7).1, (idx_some hx7).2]
      apply obindE h; intro r8 hx9 h
      have hc := nx (hself21 _ _ hx9)
      refine callK_pure hc (by simp only [go_sem, Nat.reduceEqDiff, Nat.reduceAdd, Nat.reduceSub, Nat.reduceMul, Nat.reduceLeDiff, Nat.reduceLT, Nat.reduceBEq, reduceIte]) ?_
      try simp only [go_sem, Nat.reduceEqDiff, Nat.reduceAdd, Nat.reduceSub, Nat.reduceMul, Nat.reduceLeDiff, Nat.reduceLT, Nat.reduceBEq, reduceIte, (idx_some hx7).1, (idx_some hx7).2]
      refine AW.cut [0] [(1, .ptr 0 6 0 0), (3, .d (.val (.int .i64 (IntKind.wrap .i64 (i1_0 + r8))))), (4, .d (.val (.int .i64 i1_1)))] [some ⟨6, [[.d (.val (.int .i64 p0.op)), .d (.val (.string p0.name)), .d (.val (.bool p0.num.neg)), .d (slD u32V p0.num.num), .d (slD u32V p0.num.den), .d (slD NodeA.enc p0.kids)]]⟩] (by simp only [go_sem, Nat.reduceEqDiff, Nat.reduceAdd, Nat.reduceSub, Nat.reduceMul, Nat.reduceLeDiff, Nat.reduceLT, Nat.reduceBEq, reduceIte, (idx_some hx7).1, (idx_some hx7).2]) ?_
      refine AW.rg mixed ?_
      exact NextQ.ar (IntKind.wrap .i64 (i1_0 + r8), IntKind.wrap .i64 (i1_1 + (1 : Int))) [0] h
    have h := ifF hb5 h
    refine AW.ex ?_
    exact JoinQ.ar i1_0 [] (Option.some.inj h)
  rintro e2_0 rfl
  have h := hJ4
  try dsimp only [Out.fin] at h
  refine nz ?_
  refine AW.kp [] [3] ?_
  refine AW.op mixed ?_
  refine AW.ret ?_
  obtain rfl := Option.some.inj h
  refine nz ?_
  exact .same _
def r08_Size (K : Nat) (p0 : NodeA) : Option Int := iter K (fun self q => r08_Size_body K self q) p0
theorem key_r08_Size {K : Nat} (k : Nat) : (∀ (q : NodeA) (r : Int), iter k (fun self q => r08_Size_body K self q) q = some r → Cn Try.prog 21 [aggV q.enc] (.d (.val (.int .i64 r)))) := by
  induction k with
  | zero => exact fun q r h => by cases h
  | succ k ih => exact fun q r h => r08_Size_step K _ ih q r h
theorem r08_Size_ok {K : Nat} {p0 : NodeA} {r : Int} (h : r08_Size K p0 = some r) : Cn Try.prog 21 [aggV p0.enc] (.d (.val (.int .i64 r))) := (key_r08_Size K) p0 r h

end Go.Proofs.Ytcgphoghmgeecaa
namespace Go.Proofs.Ytcgphoghmgeecaa
open Go Go.Iso Go.Proofs
set_option linter.unusedSimpArgs false
set_option linter.unusedVariables false
set_option maxRecDepth 100000

/-! ### isochrone/isochroneref08.Sort -/
def r08_Sort (K : Nat) (p0 : Int) : Option Int := ((
    if (decide ((1 : Int) ≤ p0)) then
      some (decide (p0 ≤ (13 : Int)))
    else
      some false) : Option Bool).bind (fun v1_0 => 
  if v1_0 then
    some (1 : Int)
  else
    ((
      if (decide ((20 : Int) ≤ p0)) then
        some (decide (p0 ≤ (39 : Int)))
      else
        some false) : Option Bool).bind (fun v5_0 => 
    if v5_0 then
      some (2 : Int)
    else
      ((
        if (p0 == (55 : Int)) then
          some true
        else
          some (p0 == (56 : Int))) : Option Bool).bind (fun v9_0 => 
      if v9_0 then
        some (4 : Int)
      else
        ((
          if (decide ((50 : Int) ≤ p0)) then
            some (decide (p0 ≤ (62 : Int)))
          else
            some false) : Option Bool).bind (fun v13_0 => 
        if v13_0 then
          some (3 : Int)
        else
          some (0 : Int)))))
set_option maxHeartbeats 4000000 in
theorem r08_Sort_ok {K : Nat} {p0 : Int} {r : Int} (h : r08_Sort K p0 = some r) : Cn Try.prog 41 [.d (.val (.int .i64 p0))] (.d (.val (.int .i64 r))) := by
  refine Cn.ofA mixed Try.func41 rfl Try.call41 Try.ntmps41 Try.results41 (by simp) (by simp only [go_sem, Nat.reduceEqDiff, Nat.reduceAdd, Nat.reduceSub, Nat.reduceMul, Nat.reduceLeDiff, Nat.reduceLT, Nat.reduceBEq, reduceIte]) fun hfit => ?_
  unfold r08_Sort at h
  refine AW.kp [] [0] ?_
  refine AW.op mixed ?_
  refine AW.kp [] [0] ?_
  refine AW.one ?_
  refine AW.block ?_
  refine AW.one ?_
  refine obindE h fun oJ2 h hJ2 => ?_
  refine AW.join (S := Bool) (fun v1_0 => [(0, .d (.val (.int .i64 p0))), (3, .d (.val (.bool v1_0)))]) (fun v1_0 => []) (fun x => x = oJ2) ?_ ?_
  · skip
    refine AW.rg mixed ?_
    refine splitK_intro (fun hb3 => ?_) (fun hb3 => ?_)
    · have h := ifT hb3 h
      try simp only [go_sem, Nat.reduceEqDiff, Nat.reduceAdd, Nat.reduceSub, Nat.reduceMul, Nat.reduceLeDiff, Nat.reduceLT, Nat.reduceBEq, reduceIte, hb3]
      refine JoinQ.mk (decide (p0 ≤ (13 : Int))) [] (Option.some.inj h) (by simp only [go_sem, Nat.reduceEqDiff, Nat.reduceAdd, Nat.reduceSub, Nat.reduceMul, Nat.reduceLeDiff, Nat.reduceLT, Nat.reduceBEq, reduceIte, hb3])
    have h := ifF hb3 h
    try simp only [go_sem, Nat.reduceEqDiff, Nat.reduceAdd, Nat.reduceSub, Nat.reduceMul, Nat.reduceLeDiff, Nat.reduceLT, Nat.reduceBEq, reduceIte, hb3]
    refine JoinQ.mk false [] (Option.some.inj h) (by simp only [go_sem, Nat.reduceEqDiff, Nat.reduceAdd, Nat.reduceSub, Nat.reduceMul, Nat.reduceLeDiff, Nat.reduceLT, Nat.reduceBEq, reduceIte, hb3])
  rintro v1_0 rfl
  have h := hJ2
  try dsimp only [Out.fin] at h
  refine nz ?_
  refine AW.ts v1_0 (fun hb4 => ?_) (fun hb4 => ?_)
  · have h := ifT hb4 h
    refine AW.op mixed ?_
    refine AW.ret ?_
    obtain rfl := Option.some.inj h
    refine nz ?_
    exact .same _
  have h := ifF hb4 h
  refine AW.one ?_
  refine obindE h fun oJ6 h hJ6 => ?_
  refine AW.join (S := Bool) (fun v5_0 => [(0, .d (.val (.int .i64 p0))), (10, .d (.val (.bool v5_0)))]) (fun v5_0 => []) (fun x => x = oJ6) ?_ ?_
  · skip
    refine AW.rg mixed ?_
    refine splitK_intro (fun hb7 => ?_) (fun hb7 => ?_)
    · have h := ifT hb7 h
      try simp only [go_sem, Nat.reduceEqDiff, Nat.reduceAdd, Nat.reduceSub, Nat.reduceMul, Nat.reduceLeDiff, Nat.reduceLT, Nat.reduceBEq, reduceIte, hb7]
      refine JoinQ.mk (decide (p0 ≤ (39 : Int))) [] (Option.some.inj h) (by simp only [go_sem, Nat.reduceEqDiff, Nat.reduceAdd, Nat.reduceSub, Nat.reduceMul, Nat.reduceLeDiff, Nat.reduceLT, Nat.reduceBEq, reduceIte, hb7])
    have h := ifF hb7 h
    try simp only [go_sem, Nat.reduceEqDiff, Nat.reduceAdd, Nat.reduceSub, Nat.reduceMul, Nat.reduceLeDiff, Nat.reduceLT, Nat.reduceBEq, reduceIte, hb7]
    refine JoinQ.mk false [] (Option.some.inj h) (by simp only [go_sem, Nat.reduceEqDiff, Nat.reduceAdd, Nat.reduceSub, Nat.reduceMul, Nat.reduceLeDiff, Nat.reduceLT, Nat.reduceBEq, reduceIte, hb7])
  rintro v5_0 rfl
  have h := hJ6
  try dsimp only [Out.fin] at h
  refine nz ?_
  refine AW.ts v5_0 (fun hb8 => ?_) (fun hb8 => ?_)
  · have h := ifT hb8 h
    refine AW.op mixed ?_
    refine AW.ret ?_
    obtain rfl := Option.some.inj h
    refine nz ?_
    exact .same _
  have h := ifF hb8 h
  refine AW.one ?_
  refine obindE h fun oJ10 h hJ10 => ?_
  refine AW.join (S := Bool) (fun v9_0 => [(0, .d (.val (.int .i64 p0))), (17, .d (.val (.bool v9_0)))]) (fun v9_0 => []) (fun x => x = oJ10) ?_ ?_
  · skip
    refine AW.rg mixed ?_
    refine splitK_intro (fun hb11 => ?_) (fun hb11 => ?_)
    · have h := ifT hb11 h
      try simp only [go_sem, Nat.reduceEqDiff, Nat.reduceAdd, Nat.reduceSub, Nat.reduceMul, Nat.reduceLeDiff, Nat.reduceLT, Nat.reduceBEq, reduceIte, hb11]
      refine JoinQ.mk true [] (Option.some.inj h) (by simp only [go_sem, Nat.reduceEqDiff, Nat.reduceAdd, Nat.reduceSub, Nat.reduceMul, Nat.reduceLeDiff, Nat.reduceLT, Nat.reduceBEq, reduceIte, hb11])
    have h := ifF hb11 h
    try simp only [go_sem, Nat.reduceEqDiff, Nat.reduceAdd, Nat.reduceSub, Nat.reduceMul, Nat.reduceLeDiff, Nat.reduceLT, Nat.reduceBEq, reduceIte, hb11]
    refine JoinQ.mk (p0 == (56 : Int)) [] (Option.some.inj h) (by simp only [go_sem, Nat.reduceEqDiff, Nat.reduceAdd, Nat.reduceSub, Nat.reduceMul, Nat.reduceLeDiff, Nat.reduceLT, Nat.reduceBEq, reduceIte, hb11])
  rintro v9_0 rfl
  have h := hJ10
  try dsimp only [Out.fin] at h
  refine nz ?_
  refine AW.ts v9_0 (fun hb12 => ?_) (fun hb12 => ?_)
  · have h := ifT hb12 h
    refine AW.op mixed ?_
    refine AW.ret ?_
    obtain rfl := Option.some.inj h
    refine nz ?_
    exact .same _
  have h := ifF hb12 h
  refine AW.one ?_
  refine obindE h fun oJ14 h hJ14 => ?_
  refine AW.join (S := Bool) (fun v13_0 => [(24, .d (.val (.bool v13_0)))]) (fun v13_0 => []) (fun x => x = oJ14) ?_ ?_
  · skip
    refine AW.rg mixed ?_
    refine splitK_intro (fun hb15 => ?_) (fun hb15 => ?_)
    · have h := ifT hb15 h
      try simp only [go_sem, Nat.reduceEqDiff, Nat.reduceAdd, Nat.reduceSub, Nat.reduceMul, Nat.reduceLeDiff, Nat.reduceLT, Nat.reduceBEq, reduceIte, hb15]
      refine JoinQ.mk (decide (p0 ≤ (62 : Int))) [] (Option.some.inj h) (by simp only [go_sem, Nat.reduceEqDiff, Nat.reduceAdd, Nat.reduceSub, Nat.reduceMul, Nat.reduceLeDiff, Nat.reduceLT, Nat.reduceBEq, reduceIte, hb15])
    have h := ifF hb15 h
    try simp only [go_sem, Nat.reduceEqDiff, Nat.reduceAdd, Nat.reduceSub, Nat.reduceMul, Nat.reduceLeDiff, Nat.reduceLT, Nat.reduceBEq, reduceIte, hb15]
    refine JoinQ.mk false [] (Option.some.inj h) (by simp only [go_sem, Nat.reduceEqDiff, Nat.reduceAdd, Nat.reduceSub, Nat.reduceMul, Nat.reduceLeDiff, Nat.reduceLT, Nat.reduceBEq, reduceIte, hb15])
  rintro v13_0 rfl
  have h := hJ14
  try dsimp only [Out.fin] at h
  refine nz ?_
  refine AW.ts v13_0 (fun hb16 => ?_) (fun hb16 => ?_)
  · have h := ifT hb16 h
    refine AW.op mixed ?_
    refine AW.ret ?_
    obtain rfl := Option.some.inj h
    refine nz ?_
    exact .same _
  have h := ifF hb16 h
  refine AW.sk ?_
  refine AW.kp [] [] ?_
  refine AW.op mixed ?_
  refine AW.ret ?_
  obtain rfl := Option.some.inj h
  refine nz ?_
  exact .same _

end Go.Proofs.Ytcgphoghmgeecaa
namespace Go.Proofs.Ytcgphoghmgeecaa
open Go Go.Iso Go.Proofs
set_option linter.unusedSimpArgs false
set_option linter.unusedVariables false
set_option maxRecDepth 100000

/-! ### isochrone/isochroneref08.letter -/
def r08_letter (K : Nat) (p0 : Int) : Option Bool := if (decide ((97 : Int) ≤ p0)) then
    if (decide (p0 ≤ (122 : Int))) then
      some true
    else
      if (decide ((65 : Int) ≤ p0)) then
        some (decide (p0 ≤ (90 : Int)))
      else
        some false
  else
    if (decide ((65 : Int) ≤ p0)) then
      some (decide (p0 ≤ (90 : Int)))
    else
      some false
set_option maxHeartbeats 4000000 in
theorem r08_letter_ok {K : Nat} {p0 : Int} {r : Bool} (h : r08_letter K p0 = some r) : Cn Try.prog 70 [.d (.val (.int .u8 p0))] (.d (.val (.bool r))) := by
  refine Cn.ofA mixed Try.func70 rfl Try.call70 Try.ntmps70 Try.results70 (by simp) (by simp only [go_sem, Nat.reduceEqDiff, Nat.reduceAdd, Nat.reduceSub, Nat.reduceMul, Nat.reduceLeDiff, Nat.reduceLT, Nat.reduceBEq, reduceIte]) fun hfit => ?_
  unfold r08_letter at h
  refine AW.kp [] [0] ?_
  refine AW.op mixed ?_
  refine AW.kp [] [0] ?_
  refine AW.op mixed ?_
  refine splitK_intro (fun hb1 => ?_) (fun hb1 => ?_)
  · have h := ifT hb1 h
    try simp only [go_sem, Nat.reduceEqDiff, Nat.reduceAdd, Nat.reduceSub, Nat.reduceMul, Nat.reduceLeDiff, Nat.reduceLT, Nat.reduceBEq, reduceIte, hb1]
    refine splitK_intro (fun hb2 => ?_) (fun hb2 => ?_)
    · have h := ifT hb2 h
      try simp only [go_sem, Nat.reduceEqDiff, Nat.reduceAdd, Nat.reduceSub, Nat.reduceMul, Nat.reduceLeDiff, Nat.reduceLT, Nat.reduceBEq, reduceIte, hb1, hb2]
      refine AW.ret ?_
      obtain rfl := Option.some.inj h
      refine nz ?_
      exact .same _
    have h := ifF hb2 h
    try simp only [go_sem, Nat.reduceEqDiff, Nat.reduceAdd, Nat.reduceSub, Nat.reduceMul, Nat.reduceLeDiff, Nat.reduceLT, Nat.reduceBEq, reduceIte, hb1, hb2]
    refine splitK_intro (fun hb3 => ?_) (fun hb3 => ?_)
    · have h := ifT hb3 h
      try simp only [go_sem, Nat.reduceEqDiff, Nat.reduceAdd, Nat.reduceSub, Nat.reduceMul, Nat.reduceLeDiff, Nat.reduceLT, Nat.reduceBEq, reduceIte, hb1, hb2, hb3]
      refine AW.ret ?_
      obtain rfl := Option.some.inj h
      refine nz ?_
      exact .same _
    have h := ifF hb3 h
    try simp only [go_sem, Nat.reduceEqDiff, Nat.reduceAdd, Nat.reduceSub, Nat.reduceMul, Nat.reduceLeDiff, Nat.reduceLT, Nat.reduceBEq, reduceIte, hb1, hb2, hb3]
    refine AW.ret ?_
    obtain rfl := Option.some.inj h
    refine nz ?_
    exact .same _
  have h := ifF hb1 h
  try simp only [go_sem, Nat.reduceEqDiff, Nat.reduceAdd, Nat.reduceSub, Nat.reduceMul, Nat.reduceLeDiff, Nat.reduceLT, Nat.reduceBEq, reduceIte, hb1]
  refine splitK_intro (fun hb4 => ?_) (fun hb4 => ?_)
  · have h := ifT hb4 h
    try simp only [go_sem, Nat.reduceEqDiff, Nat.reduceAdd, Nat.reduceSub, Nat.reduceMul, Nat.reduceLeDiff, Nat.reduceLT, Nat.reduceBEq, reduceIte, hb1, hb4]
    refine AW.ret ?_
    obtain rfl := Option.some.inj h
    refine nz ?_
    exact .same _
  have h := ifF hb4 h
  try simp only [go_sem, Nat.reduceEqDiff, Nat.reduceAdd, Nat.reduceSub, Nat.reduceMul, Nat.reduceLeDiff, Nat.reduceLT, Nat.reduceBEq, reduceIte, hb1, hb4]
  refine AW.ret ?_
  obtain rfl := Option.some.inj h
  refine nz ?_
  exact .same _

end Go.Proofs.Ytcgphoghmgeecaa
namespace Go.Proofs.Ytcgphoghmgeecaa
open Go Go.Iso Go.Proofs
set_option linter.unusedSimpArgs false
set_option linter.unusedVariables false
set_option maxRecDepth 100000

/-! ### isochrone/isochroneref08.Name -/
def r08_Name (K : Nat) (p0 : ByteArray) : Option Bool := ((
    ((
      if ((p0.size : Int) == (0 : Int)) then
        some true
      else
        if (decide ((12 : Int) < (p0.size : Int))) then
          some true
        else
          if (p0.toList == (⟨#[116, 114, 117, 101]⟩ : ByteArray).toList) then
            some true
          else
            if (p0.toList == (⟨#[102, 97, 108, 115, 101]⟩ : ByteArray).toList) then
              some true
            else
              if (p0.toList == (⟨#[102, 111, 114, 97, 108, 108]⟩ : ByteArray).toList) then
                some true
              else
                some (p0.toList == (⟨#[101, 120, 105, 115, 116, 115]⟩ : ByteArray).toList)) : Option Bool).bind (fun v3_0 => 
    if v3_0 then
      outM (
        some false)
    else
      some (.go ()))) : Option (Out Unit _)).bind (Out.fin fun _ => 
  ((iter (S := Int) (R := Out Unit _) K (fun again i11_0 => 
    if (decide (i11_0 < (p0.size : Int))) then
      ((
        ((
          (strAt p0 i11_0).bind fun c20 => 
          (r08_letter K (c20.toNat : Int)).bind fun r22 => 
          if (!r22) then
            if (i11_0 == (0 : Int)) then
              some true
            else
              if (decide ((c20.toNat : Int) < (48 : Int))) then
                some true
              else
                some (decide ((57 : Int) < (c20.toNat : Int)))
          else
            some false) : Option Bool).bind (fun v18_0 => 
        if v18_0 then
          outM (
            outM (
              some false))
        else
          some (.go ()))) : Option (Out Unit _)).bind (Out.fin fun _ => 
      again (IntKind.wrap .i64 (i11_0 + (1 : Int))))
    else
      some (.go ())) (0 : Int)) : Option (Out Unit _)).bind (Out.fin fun _ => 
  some true))
set_option maxHeartbeats 4000000 in
theorem r08_Name_ok {K : Nat} {p0 : ByteArray} {r : Bool} (h : r08_Name K p0 = some r) : Cn Try.prog 50 [.d (.val (.string p0))] (.d (.val (.bool r))) := by
  refine Cn.ofA mixed Try.func50 rfl Try.call50 Try.ntmps50 Try.results50 (by simp) (by simp only [go_sem, Nat.reduceEqDiff, Nat.reduceAdd, Nat.reduceSub, Nat.reduceMul, Nat.reduceLeDiff, Nat.reduceLT, Nat.reduceBEq, reduceIte]) fun hfit => ?_
  unfold r08_Name at h
  refine AW.kp [] [0] ?_
  refine AW.op mixed ?_
  refine AW.kp [] [0] ?_
  refine AW.one ?_
  refine obindE h fun oJ2 h hJ2 => ?_
  refine AW.join (S := Unit) (fun _ => [(0, .d (.val (.string p0)))]) (fun _ => []) (fun x => oJ2 = .go x) ?_ ?_
  · skip
    refine AW.one ?_
    refine obindE h fun oJ4 h hJ4 => ?_
    refine AW.join (S := Bool) (fun v3_0 => [(0, .d (.val (.string p0))), (27, .d (.val (.bool v3_0)))]) (fun v3_0 => []) (fun x => x = oJ4) ?_ ?_
    · skip
      refine AW.rg mixed ?_
      refine splitK_intro (fun hb5 => ?_) (fun hb5 => ?_)
      · have h := ifT hb5 h
        try simp only [go_sem, Nat.reduceEqDiff, Nat.reduceAdd, Nat.reduceSub, Nat.reduceMul, Nat.reduceLeDiff, Nat.reduceLT, Nat.reduceBEq, reduceIte, hb5]
        refine JoinQ.mk true [] (Option.some.inj h) (by simp only [go_sem, Nat.reduceEqDiff, Nat.reduceAdd, Nat.reduceSub, Nat.reduceMul, Nat.reduceLeDiff, Nat.reduceLT, Nat.reduceBEq, reduceIte, hb5])
      have h := ifF hb5 h
      try simp only [go_sem, Nat.reduceEqDiff, Nat.reduceAdd, Nat.reduceSub, Nat.reduceMul, Nat.reduceLeDiff, Nat.reduceLT, Nat.reduceBEq, reduceIte, hb5]
      refine splitK_intro (fun hb6 => ?_) (fun hb6 => ?_)
      · have h := ifT hb6 h
        try simp only [go_sem, Nat.reduceEqDiff, Nat.reduceAdd, Nat.reduceSub, Nat.reduceMul, Nat.reduceLeDiff, Nat.reduceLT, Nat.reduceBEq, reduceIte, hb5, hb6]
        refine JoinQ.mk true [] (Option.some.inj h) (by simp only [go_sem, Nat.reduceEqDiff, Nat.reduceAdd, Nat.reduceSub, Nat.reduceMul, Nat.reduceLeDiff, Nat.reduceLT, Nat.reduceBEq, reduceIte, hb5, hb6])
      have h := ifF hb6 h
      try simp only [go_sem, Nat.reduceEqDiff, Nat.reduceAdd, Nat.reduceSub, Nat.reduceMul, Nat.reduceLeDiff, Nat.reduceLT, Nat.reduceBEq, reduceIte, hb5, hb6]
      refine splitK_intro (fun hb7 => ?_) (fun hb7 => ?_)
      · have h := ifT hb7 h
        try simp only [go_sem, Nat.reduceEqDiff, Nat.reduceAdd, Nat.reduceSub, Nat.reduceMul, Nat.reduceLeDiff, Nat.reduceLT, Nat.reduceBEq, reduceIte, hb5, hb6, hb7]
        refine JoinQ.mk true [] (Option.some.inj h) (by simp only [go_sem, Nat.reduceEqDiff, Nat.reduceAdd, Nat.reduceSub, Nat.reduceMul, Nat.reduceLeDiff, Nat.reduceLT, Nat.reduceBEq, reduceIte, hb5, hb6, hb7])
      have h := ifF hb7 h
      try simp only [go_sem, Nat.reduceEqDiff, Nat.reduceAdd, Nat.reduceSub, Nat.reduceMul, Nat.reduceLeDiff, Nat.reduceLT, Nat.reduceBEq, reduceIte, hb5, hb6, hb7]
      refine splitK_intro (fun hb8 => ?_) (fun hb8 => ?_)
      · have h := ifT hb8 h
        try simp only [go_sem, Nat.reduceEqDiff, Nat.reduceAdd, Nat.reduceSub, Nat.reduceMul, Nat.reduceLeDiff, Nat.reduceLT, Nat.reduceBEq, reduceIte, hb5, hb6, hb7, hb8]
        refine JoinQ.mk true [] (Option.some.inj h) (by simp only [go_sem, Nat.reduceEqDiff, Nat.reduceAdd, Nat.reduceSub, Nat.reduceMul, Nat.reduceLeDiff, Nat.reduceLT, Nat.reduceBEq, reduceIte, hb5, hb6, hb7, hb8])
      have h := ifF hb8 h
      try simp only [go_sem, Nat.reduceEqDiff, Nat.reduceAdd, Nat.reduceSub, Nat.reduceMul, Nat.reduceLeDiff, Nat.reduceLT, Nat.reduceBEq, reduceIte, hb5, hb6, hb7, hb8]
      refine splitK_intro (fun hb9 => ?_) (fun hb9 => ?_)
      · have h := ifT hb9 h
        try simp only [go_sem, Nat.reduceEqDiff, Nat.reduceAdd, Nat.reduceSub, Nat.reduceMul, Nat.reduceLeDiff, Nat.reduceLT, Nat.reduceBEq, reduceIte, hb5, hb6, hb7, hb8, hb9]
        refine JoinQ.mk true [] (Option.some.inj h) (by simp only [go_sem, Nat.reduceEqDiff, Nat.reduceAdd, Nat.reduceSub, Nat.reduceMul, Nat.reduceLeDiff, Nat.reduceLT, Nat.reduceBEq, reduceIte, hb5, hb6, hb7, hb8, hb9])
      have h := ifF hb9 h
      try simp only [go_sem, Nat.reduceEqDiff, Nat.reduceAdd, Nat.reduceSub, Nat.reduceMul, Nat.reduceLeDiff, Nat.reduceLT, Nat.reduceBEq, reduceIte, hb5, hb6, hb7, hb8, hb9]
      refine JoinQ.mk (p0.toList == (⟨#[101, 120, 105, 115, 116, 115]⟩ : ByteArray).toList) [] (Option.some.inj h) (by simp only [go_sem, Nat.reduceEqDiff, Nat.reduceAdd, Nat.reduceSub, Nat.reduceMul, Nat.reduceLeDiff, Nat.reduceLT, Nat.reduceBEq, reduceIte, hb5, hb6, hb7, hb8, hb9])
    rintro v3_0 rfl
    have h := hJ4
    try dsimp only [Out.fin] at h
    refine nz ?_
    refine AW.ts v3_0 (fun hb10 => ?_) (fun hb10 => ?_)
    · have h := ifT hb10 h
      refine AW.op mixed ?_
      refine AW.ret ?_
      obtain ⟨_, h, ho⟩ := outM_some h
      rw [ho, Out.fin_out] at hJ2
      have h := h.trans hJ2
      obtain rfl := Option.some.inj h
      refine nz ?_
      exact .same _
    have h := ifF hb10 h
    refine AW.sk ?_
    exact JoinQ.ar () [] (Option.some.inj h).symm
  rintro ⟨⟩ rfl
  have h := hJ2
  try dsimp only [Out.fin] at h
  refine nz ?_
  refine AW.one ?_
  refine AW.op mixed ?_
  refine AW.kp [] [0, 3] ?_
  refine obindE h fun oJ14 h hJ14 => ?_
  refine AW.join (S := Unit) (fun _ => []) (fun _ => []) (fun x => oJ14 = .go x) ?_ ?_
  · refine AW.block ?_
    refine AW.iter (S := Int) (fun i11_0 => [(0, .d (.val (.string p0))), (3, .d (.val (.int .i64 i11_0)))]) (fun i11_0 => []) [] h (by simp only [go_sem, Nat.reduceEqDiff, Nat.reduceAdd, Nat.reduceSub, Nat.reduceMul, Nat.reduceLeDiff, Nat.reduceLT, Nat.reduceBEq, reduceIte]) ?_
    rintro again i11_0 h
    try dsimp only at h
    refine AW.one ?_
    refine AW.op mixed ?_
    refine AW.kp [] [0, 3, 31] ?_
    refine AW.ts (decide (i11_0 < (p0.size : Int))) (fun hb15 => ?_) (fun hb15 => ?_)
    · have h := ifT hb15 h
      refine AW.sk ?_
      refine AW.kp [] [0, 3] ?_
      refine AW.one ?_
      refine obindE h fun oJ17 h hJ17 => ?_
      refine AW.join (S := Unit) (fun _ => [(0, .d (.val (.string p0))), (3, .d (.val (.int .i64 i11_0)))]) (fun _ => []) (fun x => oJ17 = .go x) ?_ ?_
      · skip
        refine AW.block ?_
        refine AW.one ?_
        refine obindE h fun oJ19 h hJ19 => ?_
        refine AW.join (S := Bool) (fun v18_0 => [(0, .d (.val (.string p0))), (3, .d (.val (.int .i64 i11_0))), (54, .d (.val (.bool v18_0)))]) (fun v18_0 => []) (fun x => x = oJ19) ?_ ?_
        · skip
          refine AW.reg mixed (by kernel_rfl) ?_
          apply obindE h; intro c20 hx21 h
          try simp only [go_sem, Nat.reduceEqDiff, Nat.reduceAdd, Nat.reduceSub, Nat.reduceMul, Nat.reduceLeDiff, Nat.reduceLT, Nat.reduceBEq, reduceIte, hx21]
          apply obindE h; intro r22 hx23 h
          have hc := nx (r08_letter_ok (h := hx23))
          refine callK_pure hc (by simp only [go_sem, Nat.reduceEqDiff, Nat.reduceAdd, Nat.reduceSub, Nat.reduceMul, Nat.reduceLeDiff, Nat.reduceLT, Nat.reduceBEq, reduceIte]) ?_
          try simp only [go_sem, Nat.reduceEqDiff, Nat.reduceAdd, Nat.reduceSub, Nat.reduceMul, Nat.reduceLeDiff, Nat.reduceLT, Nat.reduceBEq, reduceIte, hx21]
          refine splitK_intro (fun hb24 => ?_) (fun hb24 => ?_)
          · have h := ifT hb24 h
            try simp only [go_sem, Nat.reduceEqDiff, Nat.reduceAdd, Nat.reduceSub, Nat.reduceMul, Nat.reduceLeDiff, Nat.reduceLT, Nat.reduceBEq, reduceIte, hx21, hb24]
            refine splitK_intro (fun hb25 => ?_) (fun hb25 => ?_)
            · have h := ifT hb25 h
              try simp only [go_sem, Nat.reduceEqDiff, Nat.reduceAdd, Nat.reduceSub, Nat.reduceMul, Nat.reduceLeDiff, Nat.reduceLT, Nat.reduceBEq, reduceIte, hx21, hb24, hb25]
              refine JoinQ.mk true [] (Option.some.inj h) (by simp only [go_sem, Nat.reduceEqDiff, Nat.reduceAdd, Nat.reduceSub, Nat.reduceMul, Nat.reduceLeDiff, Nat.reduceLT, Nat.reduceBEq, reduceIte, hx21, hb24, hb25])
            have h := ifF hb25 h
            try simp only [go_sem, Nat.reduceEqDiff, Nat.reduceAdd, Nat.reduceSub, Nat.reduceMul, Nat.reduceLeDiff, Nat.reduceLT, Nat.reduceBEq, reduceIte, hx21, hb24, hb25]
            refine splitK_intro (fun hb26 => ?_) (fun hb26 => ?_)
            · have h := ifT hb26 h
              try simp only [go_sem, Nat.reduceEqDiff, Nat.reduceAdd, Nat.reduceSub, Nat.reduceMul, Nat.reduceLeDiff, Nat.reduceLT, Nat.reduceBEq, reduceIte, hx21, hb24, hb25, hb26]
              refine JoinQ.mk true [] (Option.some.inj h) (by simp only [go_sem, Nat.reduceEqDiff, Nat.reduceAdd, Nat.reduceSub, Nat.reduceMul, Nat.reduceLeDiff, Nat.reduceLT, Nat.reduceBEq, reduceIte, hx21, hb24, hb25, hb26])
            have h := ifF hb26 h
            try simp only [go_sem, Nat.reduceEqDiff, Nat.reduceAdd, Nat.reduceSub, Nat.reduceMul, Nat.reduceLeDiff, Nat.reduceLT, Nat.reduceBEq, reduceIte, hx21, hb24, hb25, hb26]
            refine JoinQ.mk (decide ((57 : Int) < (c20.toNat : Int))) [] (Option.some.inj h) (by simp only [go_sem, Nat.reduceEqDiff, Nat.reduceAdd, Nat.reduceSub, Nat.reduceMul, Nat.reduceLeDiff, Nat.reduceLT, Nat.reduceBEq, reduceIte, hx21, hb24, hb25, hb26])
          have h := ifF hb24 h
          try simp only [go_sem, Nat.reduceEqDiff, Nat.reduceAdd, Nat.reduceSub, Nat.reduceMul, Nat.reduceLeDiff, Nat.reduceLT, Nat.reduceBEq, reduceIte, hx21, hb24]
          refine JoinQ.mk false [] (Option.some.inj h) (by simp only [go_sem, Nat.reduceEqDiff, Nat.reduceAdd, Nat.reduceSub, Nat.reduceMul, Nat.reduceLeDiff, Nat.reduceLT, Nat.reduceBEq, reduceIte, hx21, hb24])
        rintro v18_0 rfl
        have h := hJ19
        try dsimp only [Out.fin] at h
        refine nz ?_
        refine AW.ts v18_0 (fun hb27 => ?_) (fun hb27 => ?_)
        · have h := ifT hb27 h
          refine AW.op mixed ?_
          refine AW.ret ?_
          obtain ⟨_, h, ho⟩ := outM_some h
          rw [ho, Out.fin_out] at hJ17
          have h := h.trans hJ17
          obtain ⟨_, h, ho⟩ := outM_some h
          rw [ho, Out.fin_out] at hJ14
          have h := h.trans hJ14
          obtain rfl := Option.some.inj h
          refine nz ?_
          exact .same _
        have h := ifF hb27 h
        refine AW.sk ?_
        exact JoinQ.ar () [] (Option.some.inj h).symm
      rintro ⟨⟩ rfl
      have h := hJ17
      try dsimp only [Out.fin] at h
      refine nz ?_
      refine AW.rg mixed ?_
      exact NextQ.ar (IntKind.wrap .i64 (i11_0 + (1 : Int))) [] h
    have h := ifF hb15 h
    refine AW.ex ?_
    exact JoinQ.ar () [] (Option.some.inj h).symm
  rintro ⟨⟩ rfl
  have h := hJ14
  try dsimp only [Out.fin] at h
  refine nz ?_
  refine AW.kp [] [] ?_
  refine AW.op mixed ?_
  refine AW.ret ?_
  obtain rfl := Option.some.inj h
  refine nz ?_
  exact .same _

end Go.Proofs.Ytcgphoghmgeecaa
namespace Go.Proofs.Ytcgphoghmgeecaa
open Go Go.Iso Go.Proofs
set_option linter.unusedSimpArgs false
set_option linter.unusedVariables false
set_option maxRecDepth 100000

/-! ### isochrone/isochroneref08.Natural -/
def r08_Natural (K : Nat) (p0 : RatA) (p1 : Int) : Option Int := if ((p0.num.length : Int) == (0 : Int)) then
    some (0 : Int)
  else
    ((
      ((
        if (decide ((1 : Int) < (p0.num.length : Int))) then
          some true
        else
          (idx p0.num (0 : Int)).bind fun x7 => 
          some (decide (p1 < (IntKind.wrap .i64 x7)))) : Option Bool).bind (fun v4_0 => 
      if v4_0 then
        outM (
          some (-1 : Int))
      else
        some (.go ()))) : Option (Out Unit _)).bind (Out.fin fun _ => 
    (idx p0.num (0 : Int)).bind fun x10 => 
    some (IntKind.wrap .i64 x10))
set_option maxHeartbeats 4000000 in
theorem r08_Natural_ok {K : Nat} {p0 : RatA} {p1 : Int} {r : Int} (h : r08_Natural K p0 p1 = some r) : Cn Try.prog 62 [aggV p0.enc, .d (.val (.int .i64 p1))] (.d (.val (.int .i64 r))) := by
  refine Cn.ofA mixed Try.func62 rfl Try.call62 Try.ntmps62 Try.results62 (by simp) (by simp only [go_sem, Nat.reduceEqDiff, Nat.reduceAdd, Nat.reduceSub, Nat.reduceMul, Nat.reduceLeDiff, Nat.reduceLT, Nat.reduceBEq, reduceIte]) fun hfit => ?_
  unfold r08_Natural at h
  refine AW.kp [] [0, 1] ?_
  refine AW.op mixed ?_
  refine AW.kp [0] [1, 2] ?_
  refine AW.one ?_
  refine AW.op mixed ?_
  refine AW.kp [0] [1, 2, 8] ?_
  refine AW.ts ((p0.num.length : Int) == (0 : Int)) (fun hb1 => ?_) (fun hb1 => ?_)
  · have h := ifT hb1 h
    refine AW.op mixed ?_
    refine AW.ret ?_
    obtain rfl := Option.some.inj h
    refine nz ?_
    exact .same _
  have h := ifF hb1 h
  refine AW.sk ?_
  refine AW.kp [0] [1, 2] ?_
  refine AW.one ?_
  refine obindE h fun oJ3 h hJ3 => ?_
  refine AW.join (S := Unit) (fun _ => [(2, .ptr 0 3 0 0)]) (fun _ => [some ⟨3, [[.d (.val (.bool p0.neg)), .d (slD u32V p0.num), .d (slD u32V p0.den)]]⟩]) (fun x => oJ3 = .go x) ?_ ?_
  · skip
    refine AW.one ?_
    refine obindE h fun oJ5 h hJ5 => ?_
    refine AW.join (S := Bool) (fun v4_0 => [(2, .ptr 0 3 0 0), (21, .d (.val (.bool v4_0)))]) (fun v4_0 => [some ⟨3, [[.d (.val (.bool p0.neg)), .d (slD u32V p0.num), .d (slD u32V p0.den)]]⟩]) (fun x => x = oJ5) ?_ ?_
    · skip
      refine AW.rg mixed ?_
      refine splitK_intro (fun hb6 => ?_) (fun hb6 => ?_)
      · have h := ifT hb6 h
        try simp only [go_sem, Nat.reduceEqDiff, Nat.reduceAdd, Nat.reduceSub, Nat.reduceMul, Nat.reduceLeDiff, Nat.reduceLT, Nat.reduceBEq, reduceIte, hb6]
        refine JoinQ.mk true [0] (Option.some.inj h) (by simp only [go_sem, Nat.reduceEqDiff, Nat.reduceAdd, Nat.reduceSub, Nat.reduceMul, Nat.reduceLeDiff, Nat.reduceLT, Nat.reduceBEq, reduceIte, hb6])
      have h := ifF hb6 h
      apply obindE h; intro x7 hx8 h
      try simp only [go_sem, Nat.reduceEqDiff, Nat.reduceAdd, Nat.reduceSub, Nat.reduceMul, Nat.reduceLeDiff, Nat.reduceLT, Nat.reduceBEq, reduceIte, hb6, (idx_some hx8).1, (idx_some hx8).2, cv_int (P := Try.prog) Try.underlying75 Try.underlying2]
      refine JoinQ.mk (decide (p1 < (IntKind.wrap .i64 x7))) [0] (Option.some.inj h) (by simp only [go_sem, Nat.reduceEqDiff, Nat.reduceAdd, Nat.reduceSub, Nat.reduceMul, Nat.reduceLeDiff, Nat.reduceLT, Nat.reduceBEq, reduceIte, hb6, (idx_some hx8).1, (idx_some hx8).2, cv_int (P := Try.prog) Try.underlying75 Try.underlying2])
    rintro v4_0 rfl
    have h := hJ5
    try dsimp only [Out.fin] at h
    refine nz ?_
    refine AW.ts v4_0 (fun hb9 => ?_) (fun hb9 => ?_)
    · have h := ifT hb9 h
      refine AW.op mixed ?_
      refine AW.ret ?_
      obtain ⟨_, h, ho⟩ := outM_some h
      rw [ho, Out.fin_out] at hJ3
      have h := h.trans hJ3
      obtain rfl := Option.some.inj h
      refine nz ?_
      exact .same _
    have h := ifF hb9 h
    refine AW.sk ?_
    exact JoinQ.ar () [0] (Option.some.inj h).symm
  rintro ⟨⟩ rfl
  have h := hJ3
  try dsimp only [Out.fin] at h
  refine nz ?_
  refine AW.one ?_
  refine AW.reg mixed (by kernel_rfl) ?_
  apply obindE h; intro x10 hx11 h
  try simp only [go_sem, Nat.reduceEqDiff, Nat.reduceAdd, Nat.reduceSub, Nat.reduceMul, Nat.reduceLeDiff, Nat.reduceLT, Nat.reduceBEq, reduceIte, (idx_some hx11).1, (idx_some hx11).2, cv_int (P := Try.prog) Try.underlying75 Try.underlying3]
  refine AW.ret ?_
  obtain rfl := Option.some.inj h
  refine nz ?_
  exact .same _

end Go.Proofs.Ytcgphoghmgeecaa
namespace Go.Proofs.Ytcgphoghmgeecaa
open Go Go.Iso Go.Proofs
set_option linter.unusedSimpArgs false
set_option linter.unusedVariables false
set_option maxRecDepth 100000

/-! ### isochrone/isochroneref08.differential -/
def r08_differential_body (K : Nat) (self63 : NodeA → Option Bool) (p0 : NodeA) : Option Bool := ((
    if (p0.op == (20 : Int)) then
      some true
    else
      if (p0.op == (21 : Int)) then
        some true
      else
        if (decide ((22 : Int) ≤ p0.op)) then
          if (decide (p0.op ≤ (27 : Int))) then
            some true
          else
            if (p0.op == (37 : Int)) then
              some true
            else
              some (p0.op == (38 : Int))
        else
          if (p0.op == (37 : Int)) then
            some true
          else
            some (p0.op == (38 : Int))) : Option Bool).bind (fun v1_0 => 
  if v1_0 then
    some true
  else
    ((
      if (p0.op == (29 : Int)) then
        some true
      else
        some (p0.op == (30 : Int))) : Option Bool).bind (fun v10_0 => 
    if v10_0 then
      ((iter (S := Int) (R := Out Unit _) K (fun again i14_0 => 
        if (decide (i14_0 < (p0.kids.length : Int))) then
          (idx p0.kids i14_0).bind fun x19 => 
          (self63 (x19)).bind fun r21 => 
          if (!r21) then
            outM (
              some false)
          else
            again (IntKind.wrap .i64 (i14_0 + (1 : Int)))
        else
          some (.go ())) (0 : Int)) : Option (Out Unit _)).bind (Out.fin fun _ => 
      some true)
    else
      some false))
set_option maxHeartbeats 4000000 in
theorem r08_differential_step (K : Nat) (self63 : NodeA → Option Bool) (hself63 : ∀ (q : NodeA) (r : Bool), self63 q = some r → Cn Try.prog 63 [aggV q.enc] (.d (.val (.bool r)))) (p0 : NodeA) (r : Bool) (h : r08_differential_body K self63 p0 = some r) : Cn Try.prog 63 [aggV p0.enc] (.d (.val (.bool r))) := by
  refine Cn.ofA mixed Try.func63 rfl Try.call63 Try.ntmps63 Try.results63 (by simp) (by simp only [go_sem, Nat.reduceEqDiff, Nat.reduceAdd, Nat.reduceSub, Nat.reduceMul, Nat.reduceLeDiff, Nat.reduceLT, Nat.reduceBEq, reduceIte]) fun hfit => ?_
  unfold r08_differential_body at h
  refine AW.kp [] [0] ?_
  refine AW.op mixed ?_
  refine AW.kp [0] [1] ?_
  refine AW.one ?_
  refine AW.block ?_
  refine AW.one ?_
  refine obindE h fun oJ2 h hJ2 => ?_
  refine AW.join (S := Bool) (fun v1_0 => [(1, .ptr 0 6 0 0), (4, .d (.val (.bool v1_0)))]) (fun v1_0 => [some ⟨6, [[.d (.val (.int .i64 p0.op)), .d (.val (.string p0.name)), .d (.val (.bool p0.num.neg)), .d (slD u32V p0.num.num), .d (slD u32V p0.num.den), .d (slD NodeA.enc p0.kids)]]⟩]) (fun x => x = oJ2) ?_ ?_
  · skip
    refine AW.rg mixed ?_
    refine splitK_intro (fun hb3 => ?_) (fun hb3 => ?_)
    · have h := ifT hb3 h
      try simp only [go_sem, Nat.reduceEqDiff, Nat.reduceAdd, Nat.reduceSub, Nat.reduceMul, Nat.reduceLeDiff, Nat.reduceLT, Nat.reduceBEq, reduceIte, hb3]
      refine JoinQ.mk true [0] (Option.some.inj h) (by simp only [go_sem, Nat.reduceEqDiff, Nat.reduceAdd, Nat.reduceSub, Nat.reduceMul, Nat.reduceLeDiff, Nat.reduceLT, Nat.reduceBEq, reduceIte, hb3])
    have h := ifF hb3 h
    try simp only [go_sem, Nat.reduceEqDiff, Nat.reduceAdd, Nat.reduceSub, Nat.reduceMul, Nat.reduceLeDiff, Nat.reduceLT, Nat.reduceBEq, reduceIte, hb3]
    refine splitK_intro (fun hb4 => ?_) (fun hb4 => ?_)
    · have h := ifT hb4 h
      try simp only [go_sem, Nat.reduceEqDiff, Nat.reduceAdd, Nat.reduceSub, Nat.reduceMul, Nat.reduceLeDiff, Nat.reduceLT, Nat.reduceBEq, reduceIte, hb3, hb4]
      refine JoinQ.mk true [0] (Option.some.inj h) (by simp only [go_sem, Nat.reduceEqDiff, Nat.reduceAdd, Nat.reduceSub, Nat.reduceMul, Nat.reduceLeDiff, Nat.reduceLT, Nat.reduceBEq, reduceIte, hb3, hb4])
    have h := ifF hb4 h
    try simp only [go_sem, Nat.reduceEqDiff, Nat.reduceAdd, Nat.reduceSub, Nat.reduceMul, Nat.reduceLeDiff, Nat.reduceLT, Nat.reduceBEq, reduceIte, hb3, hb4]
    refine splitK_intro (fun hb5 => ?_) (fun hb5 => ?_)
    · have h := ifT hb5 h
      try simp only [go_sem, Nat.reduceEqDiff, Nat.reduceAdd, Nat.reduceSub, Nat.reduceMul, Nat.reduceLeDiff, Nat.reduceLT, Nat.reduceBEq, reduceIte, hb3, hb4, hb5]
      refine splitK_intro (fun hb6 => ?_) (fun hb6 => ?_)
      · have h := ifT hb6 h
        try simp only [go_sem, Nat.reduceEqDiff, Nat.reduceAdd, Nat.reduceSub, Nat.reduceMul, Nat.reduceLeDiff, Nat.reduceLT, Nat.reduceBEq, reduceIte, hb3, hb4, hb5, hb6]
        refine JoinQ.mk true [0] (Option.some.inj h) (by simp only [go_sem, Nat.reduceEqDiff, Nat.reduceAdd, Nat.reduceSub, Nat.reduceMul, Nat.reduceLeDiff, Nat.reduceLT, Nat.reduceBEq, reduceIte, hb3, hb4, hb5, hb6])
      have h := ifF hb6 h
      try simp only [go_sem, Nat.reduceEqDiff, Nat.reduceAdd, Nat.reduceSub, Nat.reduceMul, Nat.reduceLeDiff, Nat.reduceLT, Nat.reduceBEq, reduceIte, hb3, hb4, hb5, hb6]
      refine splitK_intro (fun hb7 => ?_) (fun hb7 => ?_)
      · have h := ifT hb7 h
        try simp only [go_sem, Nat.reduceEqDiff, Nat.reduceAdd, Nat.reduceSub, Nat.reduceMul, Nat.reduceLeDiff, Nat.reduceLT, Nat.reduceBEq, reduceIte, hb3, hb4, hb5, hb6, hb7]
        refine JoinQ.mk true [0] (Option.some.inj h) (by simp only [go_sem, Nat.reduceEqDiff, Nat.reduceAdd, Nat.reduceSub, Nat.reduceMul, Nat.reduceLeDiff, Nat.reduceLT, Nat.reduceBEq, reduceIte, hb3, hb4, hb5, hb6, hb7])
      have h := ifF hb7 h
      try simp only [go_sem, Nat.reduceEqDiff, Nat.reduceAdd, Nat.reduceSub, Nat.reduceMul, Nat.reduceLeDiff, Nat.reduceLT, Nat.reduceBEq, reduceIte, hb3, hb4, hb5, hb6, hb7]
      refine JoinQ.mk (p0.op == (38 : Int)) [0] (Option.some.inj h) (by simp only [go_sem, Nat.reduceEqDiff, Nat.reduceAdd, Nat.reduceSub, Nat.reduceMul, Nat.reduceLeDiff, Nat.reduceLT, Nat.reduceBEq, reduceIte, hb3, hb4, hb5, hb6, hb7])
    have h := ifF hb5 h
    try simp only [go_sem, Nat.reduceEqDiff, Nat.reduceAdd, Nat.reduceSub, Nat.reduceMul, Nat.reduceLeDiff, Nat.reduceLT, Nat.reduceBEq, reduceIte, hb3, hb4, hb5]
    refine splitK_intro (fun hb8 => ?_) (fun hb8 => ?_)
    · have h := ifT hb8 h
      try simp only [go_sem, Nat.reduceEqDiff, Nat.reduceAdd, Nat.reduceSub, Nat.reduceMul, Nat.reduceLeDiff, Nat.reduceLT, Nat.reduceBEq, reduceIte, hb3, hb4, hb5, hb8]
      refine JoinQ.mk true [0] (Option.some.inj h) (by simp only [go_sem, Nat.reduceEqDiff, Nat.reduceAdd, Nat.reduceSub, Nat.reduceMul, Nat.reduceLeDiff, Nat.reduceLT, Nat.reduceBEq, reduceIte, hb3, hb4, hb5, hb8])
    have h := ifF hb8 h
    try simp only [go_sem, Nat.reduceEqDiff, Nat.reduceAdd, Nat.reduceSub, Nat.reduceMul, Nat.reduceLeDiff, Nat.reduceLT, Nat.reduceBEq, reduceIte, hb3, hb4, hb5, hb8]
    refine JoinQ.mk (p0.op == (38 : Int)) [0] (Option.some.inj h) (by simp only [go_sem, Nat.reduceEqDiff, Nat.reduceAdd, Nat.reduceSub, Nat.reduceMul, Nat.reduceLeDiff, Nat.reduceLT, Nat.reduceBEq, reduceIte, hb3, hb4, hb5, hb8])
  rintro v1_0 rfl
  have h := hJ2
  try dsimp only [Out.fin] at h
  refine nz ?_
  refine AW.ts v1_0 (fun hb9 => ?_) (fun hb9 => ?_)
  · have h := ifT hb9 h
    refine AW.op mixed ?_
    refine AW.ret ?_
    obtain rfl := Option.some.inj h
    refine nz ?_
    exact .same _
  have h := ifF hb9 h
  refine AW.one ?_
  refine obindE h fun oJ11 h hJ11 => ?_
  refine AW.join (S := Bool) (fun v10_0 => [(1, .ptr 0 6 0 0), (33, .d (.val (.bool v10_0)))]) (fun v10_0 => [some ⟨6, [[.d (.val (.int .i64 p0.op)), .d (.val (.string p0.name)), .d (.val (.bool p0.num.neg)), .d (slD u32V p0.num.num), .d (slD u32V p0.num.den), .d (slD NodeA.enc p0.kids)]]⟩]) (fun x => x = oJ11) ?_ ?_
  · skip
    refine AW.rg mixed ?_
    refine splitK_intro (fun hb12 => ?_) (fun hb12 => ?_)
    · have h := ifT hb12 h
      try simp only [go_sem, Nat.reduceEqDiff, Nat.reduceAdd, Nat.reduceSub, Nat.reduceMul, Nat.reduceLeDiff, Nat.reduceLT, Nat.reduceBEq, reduceIte, hb12]
      refine JoinQ.mk true [0] (Option.some.inj h) (by simp only [go_sem, Nat.reduceEqDiff, Nat.reduceAdd, Nat.reduceSub, Nat.reduceMul, Nat.reduceLeDiff, Nat.reduceLT, Nat.reduceBEq, reduceIte, hb12])
    have h := ifF hb12 h
    try simp only [go_sem, Nat.reduceEqDiff, Nat.reduceAdd, Nat.reduceSub, Nat.reduceMul, Nat.reduceLeDiff, Nat.reduceLT, Nat.reduceBEq, reduceIte, hb12]
    refine JoinQ.mk (p0.op == (30 : Int)) [0] (Option.some.inj h) (by simp only [go_sem, Nat.reduceEqDiff, Nat.reduceAdd, Nat.reduceSub, Nat.reduceMul, Nat.reduceLeDiff, Nat.reduceLT, Nat.reduceBEq, reduceIte, hb12])
  rintro v10_0 rfl
  have h := hJ11
  try dsimp only [Out.fin] at h
  refine nz ?_
  refine AW.ts v10_0 (fun hb13 => ?_) (fun hb13 => ?_)
  · have h := ifT hb13 h
    refine AW.one ?_
    refine AW.op mixed ?_
    refine AW.kp [0] [1, 3] ?_
    refine obindE h fun oJ17 h hJ17 => ?_
    refine AW.join (S := Unit) (fun _ => []) (fun _ => []) (fun x => oJ17 = .go x) ?_ ?_
    · refine AW.block ?_
      refine AW.iter (S := Int) (fun i14_0 => [(1, .ptr 0 6 0 0), (3, .d (.val (.int .i64 i14_0)))]) (fun i14_0 => [some ⟨6, [[.d (.val (.int .i64 p0.op)), .d (.val (.string p0.name)), .d (.val (.bool p0.num.neg)), .d (slD u32V p0.num.num), .d (slD u32V p0.num.den), .d (slD NodeA.enc p0.kids)]]⟩]) [0] h (by simp only [go_sem, Nat.reduceEqDiff, Nat.reduceAdd, Nat.reduceSub, Nat.reduceMul, Nat.reduceLeDiff, Nat.reduceLT, Nat.reduceBEq, reduceIte]) ?_
      rintro again i14_0 h
      try dsimp only at h
      refine AW.one ?_
      refine AW.op mixed ?_
      refine AW.kp [0] [1, 3, 46] ?_
      refine AW.ts (decide (i14_0 < (p0.kids.length : Int))) (fun hb18 => ?_) (fun hb18 => ?_)
      · have h := ifT hb18 h
        refine AW.sk ?_
        refine AW.kp [0] [1, 3] ?_
        refine AW.one ?_
        refine AW.block ?_
        refine AW.one ?_
        refine AW.reg mixed (by kernel_rfl) ?_
        apply obindE h; intro x19 hx20 h
        try simp only [go_sem, Nat.reduceEqDiff, Nat.reduceAdd, Nat.reduceSub, Nat.reduceMul, Nat.reduceLeDiff, Nat.reduceLT, Nat.reduceBEq, reduceIte, (idx_some hx20).1, (idx_some hx20).2]
        apply obindE h; intro r21 hx22 h
        have hc := nx (hself63 _ _ hx22)
        refine callK_pure hc (by simp only [go_sem, Nat.reduceEqDiff, Nat.reduceAdd, Nat.reduceSub, Nat.reduceMul, Nat.reduceLeDiff, Nat.reduceLT, Nat.reduceBEq, reduceIte]) ?_
        try simp only [go_sem, Nat.reduceEqDiff, Nat.reduceAdd, Nat.reduceSub, Nat.reduceMul, Nat.reduceLeDiff, Nat.reduceLT, Nat.reduceBEq, reduceIte, (idx_some hx20).1, (idx_some hx20).2]
        refine AW.cut [0] [(1, .ptr 0 6 0 0), (3, .d (.val (.int .i64 i14_0))), (55, .d (.val (.bool (!r21))))] [some ⟨6, [[.d (.val (.int .i64 p0.op)), .d (.val (.string p0.name)), .d (.val (.bool p0.num.neg)), .d (slD u32V p0.num.num), .d (slD u32V p0.num.den), .d (slD NodeA.enc p0.kids)]]⟩] (by simp only [go_sem, Nat.reduceEqDiff, Nat.reduceAdd, Nat.reduceSub, Nat.reduceMul, Nat.reduceLeDiff, Nat.reduceLT, Nat.reduceBEq, reduceIte, (idx_some hx20).1, (idx_some hx20).2]) ?_
        refine AW.ts (!r21) (fun hb23 => ?_) (fun hb23 => ?_)
        · have h := ifT hb23 h
          refine AW.op mixed ?_
          refine AW.ret ?_
          obtain ⟨_, h, ho⟩ := outM_some h
          rw [ho, Out.fin_out] at hJ17
          have h := h.trans hJ17
          obtain rfl := Option.some.inj h
          refine nz ?_
          exact .same _
        have h := ifF hb23 h
        refine AW.sk ?_
        refine AW.kp [0] [1, 3] ?_
        refine AW.rg mixed ?_
        exact NextQ.ar (IntKind.wrap .i64 (i14_0 + (1 : Int))) [0] h
      have h := ifF hb18 h
      refine AW.ex ?_
      exact JoinQ.ar () [] (Option.some.inj h).symm
    rintro ⟨⟩ rfl
    have h := hJ17
    try dsimp only [Out.fin] at h
    refine nz ?_
    refine AW.kp [] [] ?_
    refine AW.op mixed ?_
    refine AW.ret ?_
    obtain rfl := Option.some.inj h
    refine nz ?_
    exact .same _
  have h := ifF hb13 h
  refine AW.sk ?_
  refine AW.kp [] [] ?_
  refine AW.op mixed ?_
  refine AW.ret ?_
  obtain rfl := Option.some.inj h
  refine nz ?_
  exact .same _
def r08_differential (K : Nat) (p0 : NodeA) : Option Bool := iter K (fun self q => r08_differential_body K self q) p0
theorem key_r08_differential {K : Nat} (k : Nat) : (∀ (q : NodeA) (r : Bool), iter k (fun self q => r08_differential_body K self q) q = some r → Cn Try.prog 63 [aggV q.enc] (.d (.val (.bool r)))) := by
  induction k with
  | zero => exact fun q r h => by cases h
  | succ k ih => exact fun q r h => r08_differential_step K _ ih q r h
theorem r08_differential_ok {K : Nat} {p0 : NodeA} {r : Bool} (h : r08_differential K p0 = some r) : Cn Try.prog 63 [aggV p0.enc] (.d (.val (.bool r))) := (key_r08_differential K) p0 r h

end Go.Proofs.Ytcgphoghmgeecaa
namespace Go.Proofs.Ytcgphoghmgeecaa
open Go Go.Iso Go.Proofs
set_option linter.unusedSimpArgs false
set_option linter.unusedVariables false
set_option maxRecDepth 100000

/-! ### isochrone/isochroneref08.kids -/
def r08_kids (K : Nat) (p0 : Int) : Option ByteArray := ((
    if (p0 == (4 : Int)) then
      some (p0 == (4 : Int))
    else
      if (p0 == (12 : Int)) then
        some (p0 == (12 : Int))
      else
        if (p0 == (50 : Int)) then
          some (p0 == (50 : Int))
        else
          if (p0 == (51 : Int)) then
            some (p0 == (51 : Int))
          else
            some (p0 == (55 : Int))) : Option Bool).bind (fun v1_0 => 
  if v1_0 then
    some (⟨#[49]⟩ : ByteArray)
  else
    ((
      if (p0 == (5 : Int)) then
        some (p0 == (5 : Int))
      else
        if (p0 == (6 : Int)) then
          some (p0 == (6 : Int))
        else
          if (p0 == (7 : Int)) then
            some (p0 == (7 : Int))
          else
            if (p0 == (8 : Int)) then
              some (p0 == (8 : Int))
            else
              if (p0 == (9 : Int)) then
                some (p0 == (9 : Int))
              else
                if (p0 == (22 : Int)) then
                  some (p0 == (22 : Int))
                else
                  if (p0 == (23 : Int)) then
                    some (p0 == (23 : Int))
                  else
                    if (p0 == (24 : Int)) then
                      some (p0 == (24 : Int))
                    else
                      if (p0 == (25 : Int)) then
                        some (p0 == (25 : Int))
                      else
                        if (p0 == (26 : Int)) then
                          some (p0 == (26 : Int))
                        else
                          some (p0 == (27 : Int))) : Option Bool).bind (fun v8_0 => 
    if v8_0 then
      some (⟨#[49, 49]⟩ : ByteArray)
    else
      ((
        if (p0 == (28 : Int)) then
          some (p0 == (28 : Int))
        else
          if (p0 == (33 : Int)) then
            some (p0 == (33 : Int))
          else
            if (p0 == (34 : Int)) then
              some (p0 == (34 : Int))
            else
              if (p0 == (39 : Int)) then
                some (p0 == (39 : Int))
              else
                some (p0 == (53 : Int))) : Option Bool).bind (fun v21_0 => 
      if v21_0 then
        some (⟨#[50]⟩ : ByteArray)
      else
        ((
          if (p0 == (29 : Int)) then
            some (p0 == (29 : Int))
          else
            if (p0 == (30 : Int)) then
              some (p0 == (30 : Int))
            else
              if (p0 == (31 : Int)) then
                some (p0 == (31 : Int))
              else
                some (p0 == (32 : Int))) : Option Bool).bind (fun v28_0 => 
        if v28_0 then
          some (⟨#[50, 50]⟩ : ByteArray)
        else
          ((
            if (p0 == (35 : Int)) then
              some (p0 == (35 : Int))
            else
              some (p0 == (36 : Int))) : Option Bool).bind (fun v34_0 => 
          if v34_0 then
            some (⟨#[51, 50]⟩ : ByteArray)
          else
            ((
              if (p0 == (57 : Int)) then
                some (p0 == (57 : Int))
              else
                some (p0 == (58 : Int))) : Option Bool).bind (fun v38_0 => 
            if v38_0 then
              some (⟨#[51, 51]⟩ : ByteArray)
            else
              ((
                if (p0 == (59 : Int)) then
                  some (p0 == (59 : Int))
                else
                  some (p0 == (60 : Int))) : Option Bool).bind (fun v42_0 => 
              if v42_0 then
                some (⟨#[51]⟩ : ByteArray)
              else
                some (⟨#[]⟩ : ByteArray))))))))
set_option maxHeartbeats 4000000 in
theorem r08_kids_ok {K : Nat} {p0 : Int} {r : ByteArray} (h : r08_kids K p0 = some r) : Cn Try.prog 61 [.d (.val (.int .i64 p0))] (.d (.val (.string r))) := by
  refine Cn.ofA mixed Try.func61 rfl Try.call61 Try.ntmps61 Try.results61 (by simp) (by simp only [go_sem, Nat.reduceEqDiff, Nat.reduceAdd, Nat.reduceSub, Nat.reduceMul, Nat.reduceLeDiff, Nat.reduceLT, Nat.reduceBEq, reduceIte]) fun hfit => ?_
  unfold r08_kids at h
  refine AW.kp [] [0] ?_
  refine AW.op mixed ?_
  refine AW.kp [] [0] ?_
  refine AW.one ?_
  refine AW.op mixed ?_
  refine AW.kp [] [3] ?_
  refine AW.block ?_
  refine AW.one ?_
  refine obindE h fun oJ2 h hJ2 => ?_
  refine AW.join (S := Bool) (fun v1_0 => [(3, .d (.val (.int .i64 p0))), (4, .d (.val (.bool v1_0)))]) (fun v1_0 => []) (fun x => x = oJ2) ?_ ?_
  · skip
    refine AW.op mixed ?_
    refine AW.kp [] [3, 4] ?_
    refine AW.ts (p0 == (4 : Int)) (fun hb3 => ?_) (fun hb3 => ?_)
    · have h := ifT hb3 h
      refine AW.sk ?_
      exact JoinQ.ar (p0 == (4 : Int)) [] (Option.some.inj h)
    have h := ifF hb3 h
    refine AW.op mixed ?_
    refine AW.kp [] [3, 4] ?_
    refine AW.ts (p0 == (12 : Int)) (fun hb4 => ?_) (fun hb4 => ?_)
    · have h := ifT hb4 h
      refine AW.sk ?_
      exact JoinQ.ar (p0 == (12 : Int)) [] (Option.some.inj h)
    have h := ifF hb4 h
    refine AW.op mixed ?_
    refine AW.kp [] [3, 4] ?_
    refine AW.ts (p0 == (50 : Int)) (fun hb5 => ?_) (fun hb5 => ?_)
    · have h := ifT hb5 h
      refine AW.sk ?_
      exact JoinQ.ar (p0 == (50 : Int)) [] (Option.some.inj h)
    have h := ifF hb5 h
    refine AW.op mixed ?_
    refine AW.kp [] [3, 4] ?_
    refine AW.ts (p0 == (51 : Int)) (fun hb6 => ?_) (fun hb6 => ?_)
    · have h := ifT hb6 h
      refine AW.sk ?_
      exact JoinQ.ar (p0 == (51 : Int)) [] (Option.some.inj h)
    have h := ifF hb6 h
    refine AW.rg mixed ?_
    exact JoinQ.ar (p0 == (55 : Int)) [] (Option.some.inj h)
  rintro v1_0 rfl
  have h := hJ2
  try dsimp only [Out.fin] at h
  refine nz ?_
  refine AW.ts v1_0 (fun hb7 => ?_) (fun hb7 => ?_)
  · have h := ifT hb7 h
    refine AW.op mixed ?_
    refine AW.ret ?_
    obtain rfl := Option.some.inj h
    refine nz ?_
    exact .same _
  have h := ifF hb7 h
  refine AW.one ?_
  refine obindE h fun oJ9 h hJ9 => ?_
  refine AW.join (S := Bool) (fun v8_0 => [(3, .d (.val (.int .i64 p0))), (10, .d (.val (.bool v8_0)))]) (fun v8_0 => []) (fun x => x = oJ9) ?_ ?_
  · skip
    refine AW.op mixed ?_
    refine AW.kp [] [3, 10] ?_
    refine AW.ts (p0 == (5 : Int)) (fun hb10 => ?_) (fun hb10 => ?_)
    · have h := ifT hb10 h
      refine AW.sk ?_
      exact JoinQ.ar (p0 == (5 : Int)) [] (Option.some.inj h)
    have h := ifF hb10 h
    refine AW.op mixed ?_
    refine AW.kp [] [3, 10] ?_
    refine AW.ts (p0 == (6 : Int)) (fun hb11 => ?_) (fun hb11 => ?_)
    · have h := ifT hb11 h
      refine AW.sk ?_
      exact JoinQ.ar (p0 == (6 : Int)) [] (Option.some.inj h)
    have h := ifF hb11 h
    refine AW.op mixed ?_
    refine AW.kp [] [3, 10] ?_
    refine AW.ts (p0 == (7 : Int)) (fun hb12 => ?_) (fun hb12 => ?_)
    · have h := ifT hb12 h
      refine AW.sk ?_
      exact JoinQ.ar (p0 == (7 : Int)) [] (Option.some.inj h)
    have h := ifF hb12 h
    refine AW.op mixed ?_
    refine AW.kp [] [3, 10] ?_
    refine AW.ts (p0 == (8 : Int)) (fun hb13 => ?_) (fun hb13 => ?_)
    · have h := ifT hb13 h
      refine AW.sk ?_
      exact JoinQ.ar (p0 == (8 : Int)) [] (Option.some.inj h)
    have h := ifF hb13 h
    refine AW.op mixed ?_
    refine AW.kp [] [3, 10] ?_
    refine AW.ts (p0 == (9 : Int)) (fun hb14 => ?_) (fun hb14 => ?_)
    · have h := ifT hb14 h
      refine AW.sk ?_
      exact JoinQ.ar (p0 == (9 : Int)) [] (Option.some.inj h)
    have h := ifF hb14 h
    refine AW.op mixed ?_
    refine AW.kp [] [3, 10] ?_
    refine AW.ts (p0 == (22 : Int)) (fun hb15 => ?_) (fun hb15 => ?_)
    · have h := ifT hb15 h
      refine AW.sk ?_
      exact JoinQ.ar (p0 == (22 : Int)) [] (Option.some.inj h)
    have h := ifF hb15 h
    refine AW.op mixed ?_
    refine AW.kp [] [3, 10] ?_
    refine AW.ts (p0 == (23 : Int)) (fun hb16 => ?_) (fun hb16 => ?_)
    · have h := ifT hb16 h
      refine AW.sk ?_
      exact JoinQ.ar (p0 == (23 : Int)) [] (Option.some.inj h)
    have h := ifF hb16 h
    refine AW.op mixed ?_
    refine AW.kp [] [3, 10] ?_
    refine AW.ts (p0 == (24 : Int)) (fun hb17 => ?_) (fun hb17 => ?_)
    · have h := ifT hb17 h
      refine AW.sk ?_
      exact JoinQ.ar (p0 == (24 : Int)) [] (Option.some.inj h)
    have h := ifF hb17 h
    refine AW.op mixed ?_
    refine AW.kp [] [3, 10] ?_
    refine AW.ts (p0 == (25 : Int)) (fun hb18 => ?_) (fun hb18 => ?_)
    · have h := ifT hb18 h
      refine AW.sk ?_
      exact JoinQ.ar (p0 == (25 : Int)) [] (Option.some.inj h)
    have h := ifF hb18 h
    refine AW.op mixed ?_
    refine AW.kp [] [3, 10] ?_
    refine AW.ts (p0 == (26 : Int)) (fun hb19 => ?_) (fun hb19 => ?_)
    · have h := ifT hb19 h
      refine AW.sk ?_
      exact JoinQ.ar (p0 == (26 : Int)) [] (Option.some.inj h)
    have h := ifF hb19 h
    refine AW.rg mixed ?_
    exact JoinQ.ar (p0 == (27 : Int)) [] (Option.some.inj h)
  rintro v8_0 rfl
  have h := hJ9
  try dsimp only [Out.fin] at h
  refine nz ?_
  refine AW.ts v8_0 (fun hb20 => ?_) (fun hb20 => ?_)
  · have h := ifT hb20 h
    refine AW.op mixed ?_
    refine AW.ret ?_
    obtain rfl := Option.some.inj h
    refine nz ?_
    exact .same _
  have h := ifF hb20 h
  refine AW.one ?_
  refine obindE h fun oJ22 h hJ22 => ?_
  refine AW.join (S := Bool) (fun v21_0 => [(3, .d (.val (.int .i64 p0))), (22, .d (.val (.bool v21_0)))]) (fun v21_0 => []) (fun x => x = oJ22) ?_ ?_
  · skip
    refine AW.op mixed ?_
    refine AW.kp [] [3, 22] ?_
    refine AW.ts (p0 == (28 : Int)) (fun hb23 => ?_) (fun hb23 => ?_)
    · have h := ifT hb23 h
      refine AW.sk ?_
      exact JoinQ.ar (p0 == (28 : Int)) [] (Option.some.inj h)
    have h := ifF hb23 h
    refine AW.op mixed ?_
    refine AW.kp [] [3, 22] ?_
    refine AW.ts (p0 == (33 : Int)) (fun hb24 => ?_) (fun hb24 => ?_)
    · have h := ifT hb24 h
      refine AW.sk ?_
      exact JoinQ.ar (p0 == (33 : Int)) [] (Option.some.inj h)
    have h := ifF hb24 h
    refine AW.op mixed ?_
    refine AW.kp [] [3, 22] ?_
    refine AW.ts (p0 == (34 : Int)) (fun hb25 => ?_) (fun hb25 => ?_)
    · have h := ifT hb25 h
      refine AW.sk ?_
      exact JoinQ.ar (p0 == (34 : Int)) [] (Option.some.inj h)
    have h := ifF hb25 h
    refine AW.op mixed ?_
    refine AW.kp [] [3, 22] ?_
    refine AW.ts (p0 == (39 : Int)) (fun hb26 => ?_) (fun hb26 => ?_)
    · have h := ifT hb26 h
      refine AW.sk ?_
      exact JoinQ.ar (p0 == (39 : Int)) [] (Option.some.inj h)
    have h := ifF hb26 h
    refine AW.rg mixed ?_
    exact JoinQ.ar (p0 == (53 : Int)) [] (Option.some.inj h)
  rintro v21_0 rfl
  have h := hJ22
  try dsimp only [Out.fin] at h
  refine nz ?_
  refine AW.ts v21_0 (fun hb27 => ?_) (fun hb27 => ?_)
  · have h := ifT hb27 h
    refine AW.op mixed ?_
    refine AW.ret ?_
    obtain rfl := Option.some.inj h
    refine nz ?_
    exact .same _
  have h := ifF hb27 h
  refine AW.one ?_
  refine obindE h fun oJ29 h hJ29 => ?_
  refine AW.join (S := Bool) (fun v28_0 => [(3, .d (.val (.int .i64 p0))), (28, .d (.val (.bool v28_0)))]) (fun v28_0 => []) (fun x => x = oJ29) ?_ ?_
  · skip
    refine AW.op mixed ?_
    refine AW.kp [] [3, 28] ?_
    refine AW.ts (p0 == (29 : Int)) (fun hb30 => ?_) (fun hb30 => ?_)
    · have h := ifT hb30 h
      refine AW.sk ?_
      exact JoinQ.ar (p0 == (29 : Int)) [] (Option.some.inj h)
    have h := ifF hb30 h
    refine AW.op mixed ?_
    refine AW.kp [] [3, 28] ?_
    refine AW.ts (p0 == (30 : Int)) (fun hb31 => ?_) (fun hb31 => ?_)
    · have h := ifT hb31 h
      refine AW.sk ?_
      exact JoinQ.ar (p0 == (30 : Int)) [] (Option.some.inj h)
    have h := ifF hb31 h
    refine AW.op mixed ?_
    refine AW.kp [] [3, 28] ?_
    refine AW.ts (p0 == (31 : Int)) (fun hb32 => ?_) (fun hb32 => ?_)
    · have h := ifT hb32 h
      refine AW.sk ?_
      exact JoinQ.ar (p0 == (31 : Int)) [] (Option.some.inj h)
    have h := ifF hb32 h
    refine AW.rg mixed ?_
    exact JoinQ.ar (p0 == (32 : Int)) [] (Option.some.inj h)
  rintro v28_0 rfl
  have h := hJ29
  try dsimp only [Out.fin] at h
  refine nz ?_
  refine AW.ts v28_0 (fun hb33 => ?_) (fun hb33 => ?_)
  · have h := ifT hb33 h
    refine AW.op mixed ?_
    refine AW.ret ?_
    obtain rfl := Option.some.inj h
    refine nz ?_
    exact .same _
  have h := ifF hb33 h
  refine AW.one ?_
  refine obindE h fun oJ35 h hJ35 => ?_
  refine AW.join (S := Bool) (fun v34_0 => [(3, .d (.val (.int .i64 p0))), (33, .d (.val (.bool v34_0)))]) (fun v34_0 => []) (fun x => x = oJ35) ?_ ?_
  · skip
    refine AW.op mixed ?_
    refine AW.kp [] [3, 33] ?_
    refine AW.ts (p0 == (35 : Int)) (fun hb36 => ?_) (fun hb36 => ?_)
    · have h := ifT hb36 h
      refine AW.sk ?_
      exact JoinQ.ar (p0 == (35 : Int)) [] (Option.some.inj h)
    have h := ifF hb36 h
    refine AW.rg mixed ?_
    exact JoinQ.ar (p0 == (36 : Int)) [] (Option.some.inj h)
  rintro v34_0 rfl
  have h := hJ35
  try dsimp only [Out.fin] at h
  refine nz ?_
  refine AW.ts v34_0 (fun hb37 => ?_) (fun hb37 => ?_)
  · have h := ifT hb37 h
    refine AW.op mixed ?_
    refine AW.ret ?_
    obtain rfl := Option.some.inj h
    refine nz ?_
    exact .same _
  have h := ifF hb37 h
  refine AW.one ?_
  refine obindE h fun oJ39 h hJ39 => ?_
  refine AW.join (S := Bool) (fun v38_0 => [(3, .d (.val (.int .i64 p0))), (36, .d (.val (.bool v38_0)))]) (fun v38_0 => []) (fun x => x = oJ39) ?_ ?_
  · skip
    refine AW.op mixed ?_
    refine AW.kp [] [3, 36] ?_
    refine AW.ts (p0 == (57 : Int)) (fun hb40 => ?_) (fun hb40 => ?_)
    · have h := ifT hb40 h
      refine AW.sk ?_
      exact JoinQ.ar (p0 == (57 : Int)) [] (Option.some.inj h)
    have h := ifF hb40 h
    refine AW.rg mixed ?_
    exact JoinQ.ar (p0 == (58 : Int)) [] (Option.some.inj h)
  rintro v38_0 rfl
  have h := hJ39
  try dsimp only [Out.fin] at h
  refine nz ?_
  refine AW.ts v38_0 (fun hb41 => ?_) (fun hb41 => ?_)
  · have h := ifT hb41 h
    refine AW.op mixed ?_
    refine AW.ret ?_
    obtain rfl := Option.some.inj h
    refine nz ?_
    exact .same _
  have h := ifF hb41 h
  refine AW.one ?_
  refine obindE h fun oJ43 h hJ43 => ?_
  refine AW.join (S := Bool) (fun v42_0 => [(39, .d (.val (.bool v42_0)))]) (fun v42_0 => []) (fun x => x = oJ43) ?_ ?_
  · skip
    refine AW.op mixed ?_
    refine AW.kp [] [3, 39] ?_
    refine AW.ts (p0 == (59 : Int)) (fun hb44 => ?_) (fun hb44 => ?_)
    · have h := ifT hb44 h
      refine AW.sk ?_
      exact JoinQ.ar (p0 == (59 : Int)) [] (Option.some.inj h)
    have h := ifF hb44 h
    refine AW.rg mixed ?_
    exact JoinQ.ar (p0 == (60 : Int)) [] (Option.some.inj h)
  rintro v42_0 rfl
  have h := hJ43
  try dsimp only [Out.fin] at h
  refine nz ?_
  refine AW.ts v42_0 (fun hb45 => ?_) (fun hb45 => ?_)
  · have h := ifT hb45 h
    refine AW.op mixed ?_
    refine AW.ret ?_
    obtain rfl := Option.some.inj h
    refine nz ?_
    exact .same _
  have h := ifF hb45 h
  refine AW.sk ?_
  refine AW.kp [] [] ?_
  refine AW.op mixed ?_
  refine AW.ret ?_
  obtain rfl := Option.some.inj h
  refine nz ?_
  exact .same _

end Go.Proofs.Ytcgphoghmgeecaa
namespace Go.Proofs.Ytcgphoghmgeecaa
open Go Go.Iso Go.Proofs
set_option linter.unusedSimpArgs false
set_option linter.unusedVariables false
set_option maxRecDepth 100000

/-! ### isochrone/isochroneref08.named -/
def r08_named (K : Nat) (p0 : Int) : Option Bool := ((
    if (p0 == (2 : Int)) then
      some (p0 == (2 : Int))
    else
      if (p0 == (3 : Int)) then
        some (p0 == (3 : Int))
      else
        if (p0 == (10 : Int)) then
          some (p0 == (10 : Int))
        else
          if (p0 == (11 : Int)) then
            some (p0 == (11 : Int))
          else
            if (p0 == (33 : Int)) then
              some (p0 == (33 : Int))
            else
              if (p0 == (34 : Int)) then
                some (p0 == (34 : Int))
              else
                if (p0 == (37 : Int)) then
                  some (p0 == (37 : Int))
                else
                  if (p0 == (38 : Int)) then
                    some (p0 == (38 : Int))
                  else
                    if (p0 == (50 : Int)) then
                      some (p0 == (50 : Int))
                    else
                      if (p0 == (51 : Int)) then
                        some (p0 == (51 : Int))
                      else
                        if (p0 == (52 : Int)) then
                          some (p0 == (52 : Int))
                        else
                          if (p0 == (55 : Int)) then
                            some (p0 == (55 : Int))
                          else
                            if (p0 == (56 : Int)) then
                              some (p0 == (56 : Int))
                            else
                              if (p0 == (61 : Int)) then
                                some (p0 == (61 : Int))
                              else
                                some (p0 == (62 : Int))) : Option Bool).bind (fun v1_0 => 
  if v1_0 then
    some true
  else
    some false)
set_option maxHeartbeats 4000000 in
theorem r08_named_ok {K : Nat} {p0 : Int} {r : Bool} (h : r08_named K p0 = some r) : Cn Try.prog 58 [.d (.val (.int .i64 p0))] (.d (.val (.bool r))) := by
  refine Cn.ofA mixed Try.func58 rfl Try.call58 Try.ntmps58 Try.results58 (by simp) (by simp only [go_sem, Nat.reduceEqDiff, Nat.reduceAdd, Nat.reduceSub, Nat.reduceMul, Nat.reduceLeDiff, Nat.reduceLT, Nat.reduceBEq, reduceIte]) fun hfit => ?_
  unfold r08_named at h
  refine AW.kp [] [0] ?_
  refine AW.op mixed ?_
  refine AW.kp [] [0] ?_
  refine AW.one ?_
  refine AW.op mixed ?_
  refine AW.kp [] [3] ?_
  refine AW.block ?_
  refine AW.one ?_
  refine obindE h fun oJ2 h hJ2 => ?_
  refine AW.join (S := Bool) (fun v1_0 => [(4, .d (.val (.bool v1_0)))]) (fun v1_0 => []) (fun x => x = oJ2) ?_ ?_
  · skip
    refine AW.op mixed ?_
    refine AW.kp [] [3, 4] ?_
    refine AW.ts (p0 == (2 : Int)) (fun hb3 => ?_) (fun hb3 => ?_)
    · have h := ifT hb3 h
      refine AW.sk ?_
      exact JoinQ.ar (p0 == (2 : Int)) [] (Option.some.inj h)
    have h := ifF hb3 h
    refine AW.op mixed ?_
    refine AW.kp [] [3, 4] ?_
    refine AW.ts (p0 == (3 : Int)) (fun hb4 => ?_) (fun hb4 => ?_)
    · have h := ifT hb4 h
      refine AW.sk ?_
      exact JoinQ.ar (p0 == (3 : Int)) [] (Option.some.inj h)
    have h := ifF hb4 h
    refine AW.op mixed ?_
    refine AW.kp [] [3, 4] ?_
    refine AW.ts (p0 == (10 : Int)) (fun hb5 => ?_) (fun hb5 => ?_)
    · have h := ifT hb5 h
      refine AW.sk ?_
      exact JoinQ.ar (p0 == (10 : Int)) [] (Option.some.inj h)
    have h := ifF hb5 h
    refine AW.op mixed ?_
    refine AW.kp [] [3, 4] ?_
    refine AW.ts (p0 == (11 : Int)) (fun hb6 => ?_) (fun hb6 => ?_)
    · have h := ifT hb6 h
      refine AW.sk ?_
      exact JoinQ.ar (p0 == (11 : Int)) [] (Option.some.inj h)
    have h := ifF hb6 h
    refine AW.op mixed ?_
    refine AW.kp [] [3, 4] ?_
    refine AW.ts (p0 == (33 : Int)) (fun hb7 => ?_) (fun hb7 => ?_)
    · have h := ifT hb7 h
      refine AW.sk ?_
      exact JoinQ.ar (p0 == (33 : Int)) [] (Option.some.inj h)
    have h := ifF hb7 h
    refine AW.op mixed ?_
    refine AW.kp [] [3, 4] ?_
    refine AW.ts (p0 == (34 : Int)) (fun hb8 => ?_) (fun hb8 => ?_)
    · have h := ifT hb8 h
      refine AW.sk ?_
      exact JoinQ.ar (p0 == (34 : Int)) [] (Option.some.inj h)
    have h := ifF hb8 h
    refine AW.op mixed ?_
    refine AW.kp [] [3, 4] ?_
    refine AW.ts (p0 == (37 : Int)) (fun hb9 => ?_) (fun hb9 => ?_)
    · have h := ifT hb9 h
      refine AW.sk ?_
      exact JoinQ.ar (p0 == (37 : Int)) [] (Option.some.inj h)
    have h := ifF hb9 h
    refine AW.op mixed ?_
    refine AW.kp [] [3, 4] ?_
    refine AW.ts (p0 == (38 : Int)) (fun hb10 => ?_) (fun hb10 => ?_)
    · have h := ifT hb10 h
      refine AW.sk ?_
      exact JoinQ.ar (p0 == (38 : Int)) [] (Option.some.inj h)
    have h := ifF hb10 h
    refine AW.op mixed ?_
    refine AW.kp [] [3, 4] ?_
    refine AW.ts (p0 == (50 : Int)) (fun hb11 => ?_) (fun hb11 => ?_)
    · have h := ifT hb11 h
      refine AW.sk ?_
      exact JoinQ.ar (p0 == (50 : Int)) [] (Option.some.inj h)
    have h := ifF hb11 h
    refine AW.op mixed ?_
    refine AW.kp [] [3, 4] ?_
    refine AW.ts (p0 == (51 : Int)) (fun hb12 => ?_) (fun hb12 => ?_)
    · have h := ifT hb12 h
      refine AW.sk ?_
      exact JoinQ.ar (p0 == (51 : Int)) [] (Option.some.inj h)
    have h := ifF hb12 h
    refine AW.op mixed ?_
    refine AW.kp [] [3, 4] ?_
    refine AW.ts (p0 == (52 : Int)) (fun hb13 => ?_) (fun hb13 => ?_)
    · have h := ifT hb13 h
      refine AW.sk ?_
      exact JoinQ.ar (p0 == (52 : Int)) [] (Option.some.inj h)
    have h := ifF hb13 h
    refine AW.op mixed ?_
    refine AW.kp [] [3, 4] ?_
    refine AW.ts (p0 == (55 : Int)) (fun hb14 => ?_) (fun hb14 => ?_)
    · have h := ifT hb14 h
      refine AW.sk ?_
      exact JoinQ.ar (p0 == (55 : Int)) [] (Option.some.inj h)
    have h := ifF hb14 h
    refine AW.op mixed ?_
    refine AW.kp [] [3, 4] ?_
    refine AW.ts (p0 == (56 : Int)) (fun hb15 => ?_) (fun hb15 => ?_)
    · have h := ifT hb15 h
      refine AW.sk ?_
      exact JoinQ.ar (p0 == (56 : Int)) [] (Option.some.inj h)
    have h := ifF hb15 h
    refine AW.op mixed ?_
    refine AW.kp [] [3, 4] ?_
    refine AW.ts (p0 == (61 : Int)) (fun hb16 => ?_) (fun hb16 => ?_)
    · have h := ifT hb16 h
      refine AW.sk ?_
      exact JoinQ.ar (p0 == (61 : Int)) [] (Option.some.inj h)
    have h := ifF hb16 h
    refine AW.rg mixed ?_
    exact JoinQ.ar (p0 == (62 : Int)) [] (Option.some.inj h)
  rintro v1_0 rfl
  have h := hJ2
  try dsimp only [Out.fin] at h
  refine nz ?_
  refine AW.ts v1_0 (fun hb17 => ?_) (fun hb17 => ?_)
  · have h := ifT hb17 h
    refine AW.op mixed ?_
    refine AW.ret ?_
    obtain rfl := Option.some.inj h
    refine nz ?_
    exact .same _
  have h := ifF hb17 h
  refine AW.sk ?_
  refine AW.kp [] [] ?_
  refine AW.op mixed ?_
  refine AW.ret ?_
  obtain rfl := Option.some.inj h
  refine nz ?_
  exact .same _

end Go.Proofs.Ytcgphoghmgeecaa
namespace Go.Proofs.Ytcgphoghmgeecaa
open Go Go.Iso Go.Proofs
set_option linter.unusedSimpArgs false
set_option linter.unusedVariables false
set_option maxRecDepth 100000

/-! ### isochrone/isochroneref08.natural -/
def r08_natural (K : Nat) (p0 : RatA) : Option Bool := ((
    ((
      if p0.neg then
        some true
      else
        if ((p0.den.length : Int) != (1 : Int)) then
          some true
        else
          (idx p0.den (0 : Int)).bind fun x7 => 
          if (x7 != (1 : Int)) then
            some true
          else
            some (decide ((20 : Int) < (p0.num.length : Int)))) : Option Bool).bind (fun v3_0 => 
    if v3_0 then
      outM (
        some false)
    else
      some (.go ()))) : Option (Out Unit _)).bind (Out.fin fun _ => 
  if ((p0.num.length : Int) == (0 : Int)) then
    some true
  else
    (idx p0.num (IntKind.wrap .i64 ((p0.num.length : Int) - (1 : Int)))).bind fun x12 => 
    some (x12 != (0 : Int)))
set_option maxHeartbeats 4000000 in
theorem r08_natural_ok {K : Nat} {p0 : RatA} {r : Bool} (h : r08_natural K p0 = some r) : Cn Try.prog 59 [aggV p0.enc] (.d (.val (.bool r))) := by
  refine Cn.ofA mixed Try.func59 rfl Try.call59 Try.ntmps59 Try.results59 (by simp) (by simp only [go_sem, Nat.reduceEqDiff, Nat.reduceAdd, Nat.reduceSub, Nat.reduceMul, Nat.reduceLeDiff, Nat.reduceLT, Nat.reduceBEq, reduceIte]) fun hfit => ?_
  unfold r08_natural at h
  refine AW.kp [] [0] ?_
  refine AW.op mixed ?_
  refine AW.kp [0] [1] ?_
  refine AW.one ?_
  refine obindE h fun oJ2 h hJ2 => ?_
  refine AW.join (S := Unit) (fun _ => [(1, .ptr 0 3 0 0)]) (fun _ => [some ⟨3, [[.d (.val (.bool p0.neg)), .d (slD u32V p0.num), .d (slD u32V p0.den)]]⟩]) (fun x => oJ2 = .go x) ?_ ?_
  · skip
    refine AW.one ?_
    refine obindE h fun oJ4 h hJ4 => ?_
    refine AW.join (S := Bool) (fun v3_0 => [(1, .ptr 0 3 0 0), (23, .d (.val (.bool v3_0)))]) (fun v3_0 => [some ⟨3, [[.d (.val (.bool p0.neg)), .d (slD u32V p0.num), .d (slD u32V p0.den)]]⟩]) (fun x => x = oJ4) ?_ ?_
    · skip
      refine AW.rg mixed ?_
      refine splitK_intro (fun hb5 => ?_) (fun hb5 => ?_)
      · have h := ifT hb5 h
        try simp only [go_sem, Nat.reduceEqDiff, Nat.reduceAdd, Nat.reduceSub, Nat.reduceMul, Nat.reduceLeDiff, Nat.reduceLT, Nat.reduceBEq, reduceIte, hb5]
        refine JoinQ.mk true [0] (Option.some.inj h) (by simp only [go_sem, Nat.reduceEqDiff, Nat.reduceAdd, Nat.reduceSub, Nat.reduceMul, Nat.reduceLeDiff, Nat.reduceLT, Nat.reduceBEq, reduceIte, hb5])
      have h := ifF hb5 h
      try simp only [go_sem, Nat.reduceEqDiff, Nat.reduceAdd, Nat.reduceSub, Nat.reduceMul, Nat.reduceLeDiff, Nat.reduceLT, Nat.reduceBEq, reduceIte, hb5]
      refine splitK_intro (fun hb6 => ?_) (fun hb6 => ?_)
      · have h := ifT hb6 h
        try simp only [go_sem, Nat.reduceEqDiff, Nat.reduceAdd, Nat.reduceSub, Nat.reduceMul, Nat.reduceLeDiff, Nat.reduceLT, Nat.reduceBEq, reduceIte, hb5, hb6]
        refine JoinQ.mk true [0] (Option.some.inj h) (by simp only [go_sem, Nat.reduceEqDiff, Nat.reduceAdd, Nat.reduceSub, Nat.reduceMul, Nat.reduceLeDiff, Nat.reduceLT, Nat.reduceBEq, reduceIte, hb5, hb6])
      have h := ifF hb6 h
      apply obindE h; intro x7 hx8 h
      try simp only [go_sem, Nat.reduceEqDiff, Nat.reduceAdd, Nat.reduceSub, Nat.reduceMul, Nat.reduceLeDiff, Nat.reduceLT, Nat.reduceBEq, reduceIte, hb5, hb6, (idx_some hx8).1, (idx_some hx8).2]
      refine splitK_intro (fun hb9 => ?_) (fun hb9 => ?_)
      · have h := ifT hb9 h
        try simp only [go_sem, Nat.reduceEqDiff, Nat.reduceAdd, Nat.reduceSub, Nat.reduceMul, Nat.reduceLeDiff, Nat.reduceLT, Nat.reduceBEq, reduceIte, hb5, hb6, (idx_some hx8).1, (idx_some hx8).2, hb9]
        refine JoinQ.mk true [0] (Option.some.inj h) (by simp only [go_sem, Nat.reduceEqDiff, Nat.reduceAdd, Nat.reduceSub, Nat.reduceMul, Nat.reduceLeDiff, Nat.reduceLT, Nat.reduceBEq, reduceIte, hb5, hb6, (idx_some hx8).1, (idx_some hx8).2, hb9])
      have h := ifF hb9 h
      try simp only [go_sem, Nat.reduceEqDiff, Nat.reduceAdd, Nat.reduceSub, Nat.reduceMul, Nat.reduceLeDiff, Nat.reduceLT, Nat.reduceBEq, reduceIte, hb5, hb6, (idx_some hx8).1, (idx_some hx8).2, hb9]
      refine JoinQ.mk (decide ((20 : Int) < (p0.num.length : Int))) [0] (Option.some.inj h) (by simp only [go_sem, Nat.reduceEqDiff, Nat.reduceAdd, Nat.reduceSub, Nat.reduceMul, Nat.reduceLeDiff, Nat.reduceLT, Nat.reduceBEq, reduceIte, hb5, hb6, (idx_some hx8).1, (idx_some hx8).2, hb9])
    rintro v3_0 rfl
    have h := hJ4
    try dsimp only [Out.fin] at h
    refine nz ?_
    refine AW.ts v3_0 (fun hb10 => ?_) (fun hb10 => ?_)
    · have h := ifT hb10 h
      refine AW.op mixed ?_
      refine AW.ret ?_
      obtain ⟨_, h, ho⟩ := outM_some h
      rw [ho, Out.fin_out] at hJ2
      have h := h.trans hJ2
      obtain rfl := Option.some.inj h
      refine nz ?_
      exact .same _
    have h := ifF hb10 h
    refine AW.sk ?_
    exact JoinQ.ar () [0] (Option.some.inj h).symm
  rintro ⟨⟩ rfl
  have h := hJ2
  try dsimp only [Out.fin] at h
  refine nz ?_
  refine AW.op mixed ?_
  refine splitK_intro (fun hb11 => ?_) (fun hb11 => ?_)
  · have h := ifT hb11 h
    try simp only [go_sem, Nat.reduceEqDiff, Nat.reduceAdd, Nat.reduceSub, Nat.reduceMul, Nat.reduceLeDiff, Nat.reduceLT, Nat.reduceBEq, reduceIte, hb11]
    refine AW.ret ?_
    obtain rfl := Option.some.inj h
    refine nz ?_
    exact .same _
  have h := ifF hb11 h
  apply obindE h; intro x12 hx13 h
  try simp only [go_sem, Nat.reduceEqDiff, Nat.reduceAdd, Nat.reduceSub, Nat.reduceMul, Nat.reduceLeDiff, Nat.reduceLT, Nat.reduceBEq, reduceIte, hb11, (idx_some hx13).1, (idx_some hx13).2]
  refine AW.ret ?_
  obtain rfl := Option.some.inj h
  refine nz ?_
  exact .same _

end Go.Proofs.Ytcgphoghmgeecaa
namespace Go.Proofs.Ytcgphoghmgeecaa
open Go Go.Iso Go.Proofs
set_option linter.unusedSimpArgs false
set_option linter.unusedVariables false
set_option maxRecDepth 100000

/-! ### isochrone/isochroneref08.primed -/
def r08_primed_body (K : Nat) (self72 : NodeA → Option Bool) (p0 : NodeA) : Option Bool := ((
    ((
      if (p0.op == (3 : Int)) then
        some true
      else
        if (p0.op == (12 : Int)) then
          some true
        else
          some (p0.op == (39 : Int))) : Option Bool).bind (fun v3_0 => 
    if v3_0 then
      outM (
        some true)
    else
      some (.go ()))) : Option (Out Unit _)).bind (Out.fin fun _ => 
  ((iter (S := Int) (R := Out Unit _) K (fun again i8_0 => 
    if (decide (i8_0 < (p0.kids.length : Int))) then
      (idx p0.kids i8_0).bind fun x13 => 
      (self72 (x13)).bind fun r15 => 
      if r15 then
        outM (
          some true)
      else
        again (IntKind.wrap .i64 (i8_0 + (1 : Int)))
    else
      some (.go ())) (0 : Int)) : Option (Out Unit _)).bind (Out.fin fun _ => 
  some false))
set_option maxHeartbeats 4000000 in
theorem r08_primed_step (K : Nat) (self72 : NodeA → Option Bool) (hself72 : ∀ (q : NodeA) (r : Bool), self72 q = some r → Cn Try.prog 72 [aggV q.enc] (.d (.val (.bool r)))) (p0 : NodeA) (r : Bool) (h : r08_primed_body K self72 p0 = some r) : Cn Try.prog 72 [aggV p0.enc] (.d (.val (.bool r))) := by
  refine Cn.ofA mixed Try.func72 rfl Try.call72 Try.ntmps72 Try.results72 (by simp) (by simp only [go_sem, Nat.reduceEqDiff, Nat.reduceAdd, Nat.reduceSub, Nat.reduceMul, Nat.reduceLeDiff, Nat.reduceLT, Nat.reduceBEq, reduceIte]) fun hfit => ?_
  unfold r08_primed_body at h
  refine AW.kp [] [0] ?_
  refine AW.op mixed ?_
  refine AW.kp [0] [1] ?_
  refine AW.one ?_
  refine obindE h fun oJ2 h hJ2 => ?_
  refine AW.join (S := Unit) (fun _ => [(1, .ptr 0 6 0 0)]) (fun _ => [some ⟨6, [[.d (.val (.int .i64 p0.op)), .d (.val (.string p0.name)), .d (.val (.bool p0.num.neg)), .d (slD u32V p0.num.num), .d (slD u32V p0.num.den), .d (slD NodeA.enc p0.kids)]]⟩]) (fun x => oJ2 = .go x) ?_ ?_
  · skip
    refine AW.one ?_
    refine obindE h fun oJ4 h hJ4 => ?_
    refine AW.join (S := Bool) (fun v3_0 => [(1, .ptr 0 6 0 0), (16, .d (.val (.bool v3_0)))]) (fun v3_0 => [some ⟨6, [[.d (.val (.int .i64 p0.op)), .d (.val (.string p0.name)), .d (.val (.bool p0.num.neg)), .d (slD u32V p0.num.num), .d (slD u32V p0.num.den), .d (slD NodeA.enc p0.kids)]]⟩]) (fun x => x = oJ4) ?_ ?_
    · skip
      refine AW.rg mixed ?_
      refine splitK_intro (fun hb5 => ?_) (fun hb5 => ?_)
      · have h := ifT hb5 h
        try simp only [go_sem, Nat.reduceEqDiff, Nat.reduceAdd, Nat.reduceSub, Nat.reduceMul, Nat.reduceLeDiff, Nat.reduceLT, Nat.reduceBEq, reduceIte, hb5]
        refine JoinQ.mk true [0] (Option.some.inj h) (by simp only [go_sem, Nat.reduceEqDiff, Nat.reduceAdd, Nat.reduceSub, Nat.reduceMul, Nat.reduceLeDiff, Nat.reduceLT, Nat.reduceBEq, reduceIte, hb5])
      have h := ifF hb5 h
      try simp only [go_sem, Nat.reduceEqDiff, Nat.reduceAdd, Nat.reduceSub, Nat.reduceMul, Nat.reduceLeDiff, Nat.reduceLT, Nat.reduceBEq, reduceIte, hb5]
      refine splitK_intro (fun hb6 => ?_) (fun hb6 => ?_)
      · have h := ifT hb6 h
        try simp only [go_sem, Nat.reduceEqDiff, Nat.reduceAdd, Nat.reduceSub, Nat.reduceMul, Nat.reduceLeDiff, Nat.reduceLT, Nat.reduceBEq, reduceIte, hb5, hb6]
        refine JoinQ.mk true [0] (Option.some.inj h) (by simp only [go_sem, Nat.reduceEqDiff, Nat.reduceAdd, Nat.reduceSub, Nat.reduceMul, Nat.reduceLeDiff, Nat.reduceLT, Nat.reduceBEq, reduceIte, hb5, hb6])
      have h := ifF hb6 h
      try simp only [go_sem, Nat.reduceEqDiff, Nat.reduceAdd, Nat.reduceSub, Nat.reduceMul, Nat.reduceLeDiff, Nat.reduceLT, Nat.reduceBEq, reduceIte, hb5, hb6]
      refine JoinQ.mk (p0.op == (39 : Int)) [0] (Option.some.inj h) (by simp only [go_sem, Nat.reduceEqDiff, Nat.reduceAdd, Nat.reduceSub, Nat.reduceMul, Nat.reduceLeDiff, Nat.reduceLT, Nat.reduceBEq, reduceIte, hb5, hb6])
    rintro v3_0 rfl
    have h := hJ4
    try dsimp only [Out.fin] at h
    refine nz ?_
    refine AW.ts v3_0 (fun hb7 => ?_) (fun hb7 => ?_)
    · have h := ifT hb7 h
      refine AW.op mixed ?_
      refine AW.ret ?_
      obtain ⟨_, h, ho⟩ := outM_some h
      rw [ho, Out.fin_out] at hJ2
      have h := h.trans hJ2
      obtain rfl := Option.some.inj h
      refine nz ?_
      exact .same _
    have h := ifF hb7 h
    refine AW.sk ?_
    exact JoinQ.ar () [0] (Option.some.inj h).symm
  rintro ⟨⟩ rfl
  have h := hJ2
  try dsimp only [Out.fin] at h
  refine nz ?_
  refine AW.one ?_
  refine AW.op mixed ?_
  refine AW.kp [0] [1, 3] ?_
  refine obindE h fun oJ11 h hJ11 => ?_
  refine AW.join (S := Unit) (fun _ => []) (fun _ => []) (fun x => oJ11 = .go x) ?_ ?_
  · refine AW.block ?_
    refine AW.iter (S := Int) (fun i8_0 => [(1, .ptr 0 6 0 0), (3, .d (.val (.int .i64 i8_0)))]) (fun i8_0 => [some ⟨6, [[.d (.val (.int .i64 p0.op)), .d (.val (.string p0.name)), .d (.val (.bool p0.num.neg)), .d (slD u32V p0.num.num), .d (slD u32V p0.num.den), .d (slD NodeA.enc p0.kids)]]⟩]) [0] h (by simp only [go_sem, Nat.reduceEqDiff, Nat.reduceAdd, Nat.reduceSub, Nat.reduceMul, Nat.reduceLeDiff, Nat.reduceLT, Nat.reduceBEq, reduceIte]) ?_
    rintro again i8_0 h
    try dsimp only at h
    refine AW.one ?_
    refine AW.op mixed ?_
    refine AW.kp [0] [1, 3, 21] ?_
    refine AW.ts (decide (i8_0 < (p0.kids.length : Int))) (fun hb12 => ?_) (fun hb12 => ?_)
    · have h := ifT hb12 h
      refine AW.sk ?_
      refine AW.kp [0] [1, 3] ?_
      refine AW.one ?_
      refine AW.block ?_
      refine AW.one ?_
      refine AW.reg mixed (by kernel_rfl) ?_
      apply obindE h; intro x13 hx14 h
      try simp only [go_sem, Nat.reduceEqDiff, Nat.reduceAdd, Nat.reduceSub, Nat.reduceMul, Nat.reduceLeDiff, Nat.reduceLT, Nat.reduceBEq, reduceIte, (idx_some hx14).1, (idx_some hx14).2]
      apply obindE h; intro r15 hx16 h
      have hc := nx (hself72 _ _ hx16)
      refine callK_pure hc (by simp only [go_sem, Nat.reduceEqDiff, Nat.reduceAdd, Nat.reduceSub, Nat.reduceMul, Nat.reduceLeDiff, Nat.reduceLT, Nat.reduceBEq, reduceIte]) ?_
      try simp only [go_sem, Nat.reduceEqDiff, Nat.reduceAdd, Nat.reduceSub, Nat.reduceMul, Nat.reduceLeDiff, Nat.reduceLT, Nat.reduceBEq, reduceIte, (idx_some hx14).1, (idx_some hx14).2]
      refine AW.cut [0] [(1, .ptr 0 6 0 0), (3, .d (.val (.int .i64 i8_0))), (29, .d (.val (.bool r15)))] [some ⟨6, [[.d (.val (.int .i64 p0.op)), .d (.val (.string p0.name)), .d (.val (.bool p0.num.neg)), .d (slD u32V p0.num.num), .d (slD u32V p0.num.den), .d (slD NodeA.enc p0.kids)]]⟩] (by simp only [go_sem, Nat.reduceEqDiff, Nat.reduceAdd, Nat.reduceSub, Nat.reduceMul, Nat.reduceLeDiff, Nat.reduceLT, Nat.reduceBEq, reduceIte, (idx_some hx14).1, (idx_some hx14).2]) ?_
      refine AW.ts r15 (fun hb17 => ?_) (fun hb17 => ?_)
      · have h := ifT hb17 h
        refine AW.op mixed ?_
        refine AW.ret ?_
        obtain ⟨_, h, ho⟩ := outM_some h
        rw [ho, Out.fin_out] at hJ11
        have h := h.trans hJ11
        obtain rfl := Option.some.inj h
        refine nz ?_
        exact .same _
      have h := ifF hb17 h
      refine AW.sk ?_
      refine AW.kp [0] [1, 3] ?_
      refine AW.rg mixed ?_
      exact NextQ.ar (IntKind.wrap .i64 (i8_0 + (1 : Int))) [0] h
    have h := ifF hb12 h
    refine AW.ex ?_
    exact JoinQ.ar () [] (Option.some.inj h).symm
  rintro ⟨⟩ rfl
  have h := hJ11
  try dsimp only [Out.fin] at h
  refine nz ?_
  refine AW.kp [] [] ?_
  refine AW.op mixed ?_
  refine AW.ret ?_
  obtain rfl := Option.some.inj h
  refine nz ?_
  exact .same _
def r08_primed (K : Nat) (p0 : NodeA) : Option Bool := iter K (fun self q => r08_primed_body K self q) p0
theorem key_r08_primed {K : Nat} (k : Nat) : (∀ (q : NodeA) (r : Bool), iter k (fun self q => r08_primed_body K self q) q = some r → Cn Try.prog 72 [aggV q.enc] (.d (.val (.bool r)))) := by
  induction k with
  | zero => exact fun q r h => by cases h
  | succ k ih => exact fun q r h => r08_primed_step K _ ih q r h
theorem r08_primed_ok {K : Nat} {p0 : NodeA} {r : Bool} (h : r08_primed K p0 = some r) : Cn Try.prog 72 [aggV p0.enc] (.d (.val (.bool r))) := (key_r08_primed K) p0 r h

end Go.Proofs.Ytcgphoghmgeecaa
namespace Go.Proofs.Ytcgphoghmgeecaa
open Go Go.Iso Go.Proofs
set_option linter.unusedSimpArgs false
set_option linter.unusedVariables false
set_option maxRecDepth 100000

/-! ### isochrone/isochroneref08.well -/
def r08_well_body (K : Nat) (self42 : (NodeA × Int × Bool × Bool) → Option Bool) (self60 : (NodeA × Bool × Bool) → Option Bool) (p0 : NodeA) (p1 : Int) (p2 : Bool) (p3 : Bool) : Option Bool := ((
    ((
      (r08_Sort K p0.op).bind fun r5 => 
      if (r5 != p1) then
        some true
      else
        (r08_named K p0.op).bind fun r8 => 
        (r08_Name K p0.name).bind fun r10 => 
        if (!(r8 == r10)) then
          some true
        else
          (r08_named K p0.op).bind fun r13 => 
          if (!r13) then
            some (!(p0.name.toList == (⟨#[]⟩ : ByteArray).toList))
          else
            some false) : Option Bool).bind (fun v3_0 => 
    if v3_0 then
      outM (
        some false)
    else
      some (.go ()))) : Option (Out Unit _)).bind (Out.fin fun _ => 
  ((
    if (p0.op == (1 : Int)) then
      (r08_natural K p0.num).bind fun r20 => 
      if (!r20) then
        outM (
          some false)
      else
        some (.go ())
    else
      ((
        if p0.num.neg then
          some true
        else
          if (decide ((0 : Int) < (p0.num.num.length : Int))) then
            some true
          else
            some (decide ((0 : Int) < (p0.num.den.length : Int)))) : Option Bool).bind (fun v23_0 => 
      if v23_0 then
        outM (
          some false)
      else
        some (.go ()))) : Option (Out Unit _)).bind (Out.fin fun _ => 
  ((
    ((
      if p2 then
        if (p0.op == (12 : Int)) then
          some true
        else
          some (p0.op == (3 : Int))
      else
        if p3 then
          some (p0.op == (3 : Int))
        else
          some false) : Option Bool).bind (fun v30_0 => 
    if v30_0 then
      outM (
        some false)
    else
      some (.go ()))) : Option (Out Unit _)).bind (Out.fin fun _ => 
  if (p0.op == (54 : Int)) then
    (self60 (p0, p2, p3)).bind fun r37 => 
    some r37
  else
    (r08_kids K p0.op).bind fun r39 => 
    ((
      ((
        if (p0.op == (10 : Int)) then
          some true
        else
          some (p0.op == (37 : Int))) : Option Bool).bind (fun v43_0 => 
      if v43_0 then
        if ((p0.kids.length : Int) == (1 : Int)) then
          some (⟨#[49]⟩ : ByteArray)
        else
          some r39
      else
        some r39)) : Option ByteArray).bind (fun v41_0 => 
    if ((v41_0.size : Int) != (p0.kids.length : Int)) then
      some false
    else
      ((iter (S := Int) (R := Out Unit _) K (fun again i49_0 => 
        if (decide (i49_0 < (v41_0.size : Int))) then
          ((
            ((
              (idx p0.kids i49_0).bind fun x58 => 
              (strAt v41_0 i49_0).bind fun c60 => 
              if p2 then
                if p3 then
                  (self42 (x58, IntKind.wrap .i64 (IntKind.wrap .u8 ((c60.toNat : Int) - (48 : Int))), true, true)).bind fun r64 => 
                  some (!r64)
                else
                  (self42 (x58, IntKind.wrap .i64 (IntKind.wrap .u8 ((c60.toNat : Int) - (48 : Int))), true, (p0.op == (39 : Int)))).bind fun r66 => 
                  some (!r66)
              else
                if p3 then
                  (self42 (x58, IntKind.wrap .i64 (IntKind.wrap .u8 ((c60.toNat : Int) - (48 : Int))), (p0.op == (12 : Int)), true)).bind fun r69 => 
                  some (!r69)
                else
                  (self42 (x58, IntKind.wrap .i64 (IntKind.wrap .u8 ((c60.toNat : Int) - (48 : Int))), (p0.op == (12 : Int)), (p0.op == (39 : Int)))).bind fun r71 => 
                  some (!r71)) : Option Bool).bind (fun v56_0 => 
            if v56_0 then
              outM (
                outM (
                  some false))
            else
              some (.go ()))) : Option (Out Unit _)).bind (Out.fin fun _ => 
          again (IntKind.wrap .i64 (i49_0 + (1 : Int))))
        else
          some (.go ())) (0 : Int)) : Option (Out Unit _)).bind (Out.fin fun _ => 
      if (p0.op == (8 : Int)) then
        (idx p0.kids (1 : Int)).bind fun x75 => 
        if (x75.op == (1 : Int)) then
          some (decide ((0 : Int) < (x75.num.num.length : Int)))
        else
          some false
      else
        if (p0.op == (9 : Int)) then
          (idx p0.kids (1 : Int)).bind fun x79 => 
          if (x79.op == (1 : Int)) then
            (r08_Natural K x79.num (20 : Int)).bind fun r82 => 
            some (decide ((0 : Int) ≤ r82))
          else
            some false
        else
          if (p0.op == (39 : Int)) then
            (idx p0.kids (0 : Int)).bind fun x85 => 
            (r08_differential K x85).bind fun r87 => 
            some r87
          else
            some true)))))
set_option maxHeartbeats 4000000 in
theorem r08_well_step (K : Nat) (self42 : (NodeA × Int × Bool × Bool) → Option Bool) (self60 : (NodeA × Bool × Bool) → Option Bool) (hself42 : ∀ (q : NodeA × Int × Bool × Bool) (r : Bool), self42 q = some r → Cn Try.prog 42 [aggV q.1.enc, .d (.val (.int .i64 q.2.1)), .d (.val (.bool q.2.2.1)), .d (.val (.bool q.2.2.2))] (.d (.val (.bool r)))) (hself60 : ∀ (q : NodeA × Bool × Bool) (r : Bool), self60 q = some r → Cn Try.prog 60 [aggV q.1.enc, .d (.val (.bool q.2.1)), .d (.val (.bool q.2.2))] (.d (.val (.bool r)))) (p0 : NodeA) (p1 : Int) (p2 : Bool) (p3 : Bool) (r : Bool) (h : r08_well_body K self42 self60 p0 p1 p2 p3 = some r) : Cn Try.prog 42 [aggV p0.enc, .d (.val (.int .i64 p1)), .d (.val (.bool p2)), .d (.val (.bool p3))] (.d (.val (.bool r))) := by
  refine Cn.ofA mixed Try.func42 rfl Try.call42 Try.ntmps42 Try.results42 (by simp) (by simp only [go_sem, Nat.reduceEqDiff, Nat.reduceAdd, Nat.reduceSub, Nat.reduceMul, Nat.reduceLeDiff, Nat.reduceLT, Nat.reduceBEq, reduceIte]) fun hfit => ?_
  unfold r08_well_body at h
  refine AW.kp [] [0, 1, 2, 3] ?_
  refine AW.op mixed ?_
  refine AW.kp [0] [1, 2, 3, 4] ?_
  refine AW.one ?_
  refine obindE h fun oJ2 h hJ2 => ?_
  refine AW.join (S := Unit) (fun _ => [(2, .d (.val (.bool p2))), (3, .d (.val (.bool p3))), (4, .ptr 0 6 0 0)]) (fun _ => [some ⟨6, [[.d (.val (.int .i64 p0.op)), .d (.val (.string p0.name)), .d (.val (.bool p0.num.neg)), .d (slD u32V p0.num.num), .d (slD u32V p0.num.den), .d (slD NodeA.enc p0.kids)]]⟩]) (fun x => oJ2 = .go x) ?_ ?_
  · skip
    refine AW.one ?_
    refine obindE h fun oJ4 h hJ4 => ?_
    refine AW.join (S := Bool) (fun v3_0 => [(2, .d (.val (.bool p2))), (3, .d (.val (.bool p3))), (4, .ptr 0 6 0 0), (35, .d (.val (.bool v3_0)))]) (fun v3_0 => [some ⟨6, [[.d (.val (.int .i64 p0.op)), .d (.val (.string p0.name)), .d (.val (.bool p0.num.neg)), .d (slD u32V p0.num.num), .d (slD u32V p0.num.den), .d (slD NodeA.enc p0.kids)]]⟩]) (fun x => x = oJ4) ?_ ?_
    · skip
      refine AW.rg mixed ?_
      apply obindE h; intro r5 hx6 h
      have hc := nx (r08_Sort_ok (h := hx6))
      refine callD hc ?_
      refine splitK_intro (fun hb7 => ?_) (fun hb7 => ?_)
      · have h := ifT hb7 h
        try simp only [go_sem, Nat.reduceEqDiff, Nat.reduceAdd, Nat.reduceSub, Nat.reduceMul, Nat.reduceLeDiff, Nat.reduceLT, Nat.reduceBEq, reduceIte, hb7]
        refine JoinQ.mk true [0] (Option.some.inj h) (by simp only [go_sem, Nat.reduceEqDiff, Nat.reduceAdd, Nat.reduceSub, Nat.reduceMul, Nat.reduceLeDiff, Nat.reduceLT, Nat.reduceBEq, reduceIte, hb7])
      have h := ifF hb7 h
      try simp only [go_sem, Nat.reduceEqDiff, Nat.reduceAdd, Nat.reduceSub, Nat.reduceMul, Nat.reduceLeDiff, Nat.reduceLT, Nat.reduceBEq, reduceIte, hb7]
      apply obindE h; intro r8 hx9 h
      have hc := nx (r08_named_ok (h := hx9))
      refine pcallK_intro hc (by simp only [go_sem, Nat.reduceEqDiff, Nat.reduceAdd, Nat.reduceSub, Nat.reduceMul, Nat.reduceLeDiff, Nat.reduceLT, Nat.reduceBEq, reduceIte]) ?_
      try simp only [go_sem, Nat.reduceEqDiff, Nat.reduceAdd, Nat.reduceSub, Nat.reduceMul, Nat.reduceLeDiff, Nat.reduceLT, Nat.reduceBEq, reduceIte, hb7]
      apply obindE h; intro r10 hx11 h
      have hc := nx (r08_Name_ok (h := hx11))
      refine pcallK_intro hc (by simp only [go_sem, Nat.reduceEqDiff, Nat.reduceAdd, Nat.reduceSub, Nat.reduceMul, Nat.reduceLeDiff, Nat.reduceLT, Nat.reduceBEq, reduceIte]) ?_
      try simp only [go_sem, Nat.reduceEqDiff, Nat.reduceAdd, Nat.reduceSub, Nat.reduceMul, Nat.reduceLeDiff, Nat.reduceLT, Nat.reduceBEq, reduceIte, hb7]
      refine splitK_intro (fun hb12 => ?_) (fun hb12 => ?_)
      · have h := ifT hb12 h
        try simp only [go_sem, Nat.reduceEqDiff, Nat.reduceAdd, Nat.reduceSub, Nat.reduceMul, Nat.reduceLeDiff, Nat.reduceLT, Nat.reduceBEq, reduceIte, hb7, hb12]
        refine JoinQ.mk true [0] (Option.some.inj h) (by simp only [go_sem, Nat.reduceEqDiff, Nat.reduceAdd, Nat.reduceSub, Nat.reduceMul, Nat.reduceLeDiff, Nat.reduceLT, Nat.reduceBEq, reduceIte, hb7, hb12])
      have h := ifF hb12 h
      try simp only [go_sem, Nat.reduceEqDiff, Nat.reduceAdd, Nat.reduceSub, Nat.reduceMul, Nat.reduceLeDiff, Nat.reduceLT, Nat.reduceBEq, reduceIte, hb7, hb12]
      apply obindE h; intro r13 hx14 h
      have hc := nx (r08_named_ok (h := hx14))
      refine pcallK_intro hc (by simp only [go_sem, Nat.reduceEqDiff, Nat.reduceAdd, Nat.reduceSub, Nat.reduceMul, Nat.reduceLeDiff, Nat.reduceLT, Nat.reduceBEq, reduceIte]) ?_
      try simp only [go_sem, Nat.reduceEqDiff, Nat.reduceAdd, Nat.reduceSub, Nat.reduceMul, Nat.reduceLeDiff, Nat.reduceLT, Nat.reduceBEq, reduceIte, hb7, hb12]
      refine splitK_intro (fun hb15 => ?_) (fun hb15 => ?_)
      · have h := ifT hb15 h
        try simp only [go_sem, Nat.reduceEqDiff, Nat.reduceAdd, Nat.reduceSub, Nat.reduceMul, Nat.reduceLeDiff, Nat.reduceLT, Nat.reduceBEq, reduceIte, hb7, hb12, hb15]
        refine JoinQ.mk (!(p0.name.toList == (⟨#[]⟩ : ByteArray).toList)) [0] (Option.some.inj h) (by simp only [go_sem, Nat.reduceEqDiff, Nat.reduceAdd, Nat.reduceSub, Nat.reduceMul, Nat.reduceLeDiff, Nat.reduceLT, Nat.reduceBEq, reduceIte, hb7, hb12, hb15])
      have h := ifF hb15 h
      try simp only [go_sem, Nat.reduceEqDiff, Nat.reduceAdd, Nat.reduceSub, Nat.reduceMul, Nat.reduceLeDiff, Nat.reduceLT, Nat.reduceBEq, reduceIte, hb7, hb12, hb15]
      refine JoinQ.mk false [0] (Option.some.inj h) (by simp only [go_sem, Nat.reduceEqDiff, Nat.reduceAdd, Nat.reduceSub, Nat.reduceMul, Nat.reduceLeDiff, Nat.reduceLT, Nat.reduceBEq, reduceIte, hb7, hb12, hb15])
    rintro v3_0 rfl
    have h := hJ4
    try dsimp only [Out.fin] at h
    refine nz ?_
    refine AW.ts v3_0 (fun hb16 => ?_) (fun hb16 => ?_)
    · have h := ifT hb16 h
      refine AW.op mixed ?_
      refine AW.ret ?_
      obtain ⟨_, h, ho⟩ := outM_some h
      rw [ho, Out.fin_out] at hJ2
      have h := h.trans hJ2
      obtain rfl := Option.some.inj h
      refine nz ?_
      exact .same _
    have h := ifF hb16 h
    refine AW.sk ?_
    exact JoinQ.ar () [0] (Option.some.inj h).symm
  rintro ⟨⟩ rfl
  have h := hJ2
  try dsimp only [Out.fin] at h
  refine nz ?_
  refine AW.one ?_
  refine obindE h fun oJ18 h hJ18 => ?_
  refine AW.join (S := Unit) (fun _ => [(2, .d (.val (.bool p2))), (3, .d (.val (.bool p3))), (4, .ptr 0 6 0 0)]) (fun _ => [some ⟨6, [[.d (.val (.int .i64 p0.op)), .d (.val (.string p0.name)), .d (.val (.bool p0.num.neg)), .d (slD u32V p0.num.num), .d (slD u32V p0.num.den), .d (slD NodeA.enc p0.kids)]]⟩]) (fun x => oJ18 = .go x) ?_ ?_
  · skip
    refine AW.op mixed ?_
    refine AW.kp [0] [2, 3, 4, 38] ?_
    refine AW.ts (p0.op == (1 : Int)) (fun hb19 => ?_) (fun hb19 => ?_)
    · have h := ifT hb19 h
      refine AW.op mixed ?_
      apply obindE h; intro r20 hx21 h
      have hc := nx (r08_natural_ok (h := hx21))
      refine callP hc ?_
      refine AW.kp [0] [2, 3, 4, 42] ?_
      refine AW.ts (!r20) (fun hb22 => ?_) (fun hb22 => ?_)
      · have h := ifT hb22 h
        refine AW.op mixed ?_
        refine AW.ret ?_
        obtain ⟨_, h, ho⟩ := outM_some h
        rw [ho, Out.fin_out] at hJ18
        have h := h.trans hJ18
        obtain rfl := Option.some.inj h
        refine nz ?_
        exact .same _
      have h := ifF hb22 h
      refine AW.sk ?_
      exact JoinQ.ar () [0] (Option.some.inj h).symm
    have h := ifF hb19 h
    refine AW.one ?_
    refine obindE h fun oJ24 h hJ24 => ?_
    refine AW.join (S := Bool) (fun v23_0 => [(2, .d (.val (.bool p2))), (3, .d (.val (.bool p3))), (4, .ptr 0 6 0 0), (59, .d (.val (.bool v23_0)))]) (fun v23_0 => [some ⟨6, [[.d (.val (.int .i64 p0.op)), .d (.val (.string p0.name)), .d (.val (.bool p0.num.neg)), .d (slD u32V p0.num.num), .d (slD u32V p0.num.den), .d (slD NodeA.enc p0.kids)]]⟩]) (fun x => x = oJ24) ?_ ?_
    · skip
      refine AW.rg mixed ?_
      refine splitK_intro (fun hb25 => ?_) (fun hb25 => ?_)
      · have h := ifT hb25 h
        try simp only [go_sem, Nat.reduceEqDiff, Nat.reduceAdd, Nat.reduceSub, Nat.reduceMul, Nat.reduceLeDiff, Nat.reduceLT, Nat.reduceBEq, reduceIte, hb25]
        refine JoinQ.mk true [0] (Option.some.inj h) (by simp only [go_sem, Nat.reduceEqDiff, Nat.reduceAdd, Nat.reduceSub, Nat.reduceMul, Nat.reduceLeDiff, Nat.reduceLT, Nat.reduceBEq, reduceIte, hb25])
      have h := ifF hb25 h
      try simp only [go_sem, Nat.reduceEqDiff, Nat.reduceAdd, Nat.reduceSub, Nat.reduceMul, Nat.reduceLeDiff, Nat.reduceLT, Nat.reduceBEq, reduceIte, hb25]
      refine splitK_intro (fun hb26 => ?_) (fun hb26 => ?_)
      · have h := ifT hb26 h
        try simp only [go_sem, Nat.reduceEqDiff, Nat.reduceAdd, Nat.reduceSub, Nat.reduceMul, Nat.reduceLeDiff, Nat.reduceLT, Nat.reduceBEq, reduceIte, hb25, hb26]
        refine JoinQ.mk true [0] (Option.some.inj h) (by simp only [go_sem, Nat.reduceEqDiff, Nat.reduceAdd, Nat.reduceSub, Nat.reduceMul, Nat.reduceLeDiff, Nat.reduceLT, Nat.reduceBEq, reduceIte, hb25, hb26])
      have h := ifF hb26 h
      try simp only [go_sem, Nat.reduceEqDiff, Nat.reduceAdd, Nat.reduceSub, Nat.reduceMul, Nat.reduceLeDiff, Nat.reduceLT, Nat.reduceBEq, reduceIte, hb25, hb26]
      refine JoinQ.mk (decide ((0 : Int) < (p0.num.den.length : Int))) [0] (Option.some.inj h) (by simp only [go_sem, Nat.reduceEqDiff, Nat.reduceAdd, Nat.reduceSub, Nat.reduceMul, Nat.reduceLeDiff, Nat.reduceLT, Nat.reduceBEq, reduceIte, hb25, hb26])
    rintro v23_0 rfl
    have h := hJ24
    try dsimp only [Out.fin] at h
    refine nz ?_
    refine AW.ts v23_0 (fun hb27 => ?_) (fun hb27 => ?_)
    · have h := ifT hb27 h
      refine AW.op mixed ?_
      refine AW.ret ?_
      obtain ⟨_, h, ho⟩ := outM_some h
      rw [ho, Out.fin_out] at hJ18
      have h := h.trans hJ18
      obtain rfl := Option.some.inj h
      refine nz ?_
      exact .same _
    have h := ifF hb27 h
    refine AW.sk ?_
    exact JoinQ.ar () [0] (Option.some.inj h).symm
  rintro ⟨⟩ rfl
  have h := hJ18
  try dsimp only [Out.fin] at h
  refine nz ?_
  refine AW.one ?_
  refine obindE h fun oJ29 h hJ29 => ?_
  refine AW.join (S := Unit) (fun _ => [(2, .d (.val (.bool p2))), (3, .d (.val (.bool p3))), (4, .ptr 0 6 0 0)]) (fun _ => [some ⟨6, [[.d (.val (.int .i64 p0.op)), .d (.val (.string p0.name)), .d (.val (.bool p0.num.neg)), .d (slD u32V p0.num.num), .d (slD u32V p0.num.den), .d (slD NodeA.enc p0.kids)]]⟩]) (fun x => oJ29 = .go x) ?_ ?_
  · skip
    refine AW.one ?_
    refine obindE h fun oJ31 h hJ31 => ?_
    refine AW.join (S := Bool) (fun v30_0 => [(2, .d (.val (.bool p2))), (3, .d (.val (.bool p3))), (4, .ptr 0 6 0 0), (76, .d (.val (.bool v30_0)))]) (fun v30_0 => [some ⟨6, [[.d (.val (.int .i64 p0.op)), .d (.val (.string p0.name)), .d (.val (.bool p0.num.neg)), .d (slD u32V p0.num.num), .d (slD u32V p0.num.den), .d (slD NodeA.enc p0.kids)]]⟩]) (fun x => x = oJ31) ?_ ?_
    · skip
      refine AW.rg mixed ?_
      refine splitK_intro (fun hb32 => ?_) (fun hb32 => ?_)
      · have h := ifT hb32 h
        try simp only [go_sem, Nat.reduceEqDiff, Nat.reduceAdd, Nat.reduceSub, Nat.reduceMul, Nat.reduceLeDiff, Nat.reduceLT, Nat.reduceBEq, reduceIte, hb32]
        refine splitK_intro (fun hb33 => ?_) (fun hb33 => ?_)
        · have h := ifT hb33 h
          try simp only [go_sem, Nat.reduceEqDiff, Nat.reduceAdd, Nat.reduceSub, Nat.reduceMul, Nat.reduceLeDiff, Nat.reduceLT, Nat.reduceBEq, reduceIte, hb32, hb33]
          refine JoinQ.mk true [0] (Option.some.inj h) (by simp only [go_sem, Nat.reduceEqDiff, Nat.reduceAdd, Nat.reduceSub, Nat.reduceMul, Nat.reduceLeDiff, Nat.reduceLT, Nat.reduceBEq, reduceIte, hb32, hb33])
        have h := ifF hb33 h
        try simp only [go_sem, Nat.reduceEqDiff, Nat.reduceAdd, Nat.reduceSub, Nat.reduceMul, Nat.reduceLeDiff, Nat.reduceLT, Nat.reduceBEq, reduceIte, hb32, hb33]
        refine JoinQ.mk (p0.op == (3 : Int)) [0] (Option.some.inj h) (by simp only [go_sem, Nat.reduceEqDiff, Nat.reduceAdd, Nat.reduceSub, Nat.reduceMul, Nat.reduceLeDiff, Nat.reduceLT, Nat.reduceBEq, reduceIte, hb32, hb33])
      have h := ifF hb32 h
      try simp only [go_sem, Nat.reduceEqDiff, Nat.reduceAdd, Nat.reduceSub, Nat.reduceMul, Nat.reduceLeDiff, Nat.reduceLT, Nat.reduceBEq, reduceIte, hb32]
      refine splitK_intro (fun hb34 => ?_) (fun hb34 => ?_)
      · have h := ifT hb34 h
        try simp only [go_sem, Nat.reduceEqDiff, Nat.reduceAdd, Nat.reduceSub, Nat.reduceMul, Nat.reduceLeDiff, Nat.reduceLT, Nat.reduceBEq, reduceIte, hb32, hb34]
        refine JoinQ.mk (p0.op == (3 : Int)) [0] (Option.some.inj h) (by simp only [go_sem, Nat.reduceEqDiff, Nat.reduceAdd, Nat.reduceSub, Nat.reduceMul, Nat.reduceLeDiff, Nat.reduceLT, Nat.reduceBEq, reduceIte, hb32, hb34])
      have h := ifF hb34 h
      try simp only [go_sem, Nat.reduceEqDiff, Nat.reduceAdd, Nat.reduceSub, Nat.reduceMul, Nat.reduceLeDiff, Nat.reduceLT, Nat.reduceBEq, reduceIte, hb32, hb34]
      refine JoinQ.mk false [0] (Option.some.inj h) (by simp only [go_sem, Nat.reduceEqDiff, Nat.reduceAdd, Nat.reduceSub, Nat.reduceMul, Nat.reduceLeDiff, Nat.reduceLT, Nat.reduceBEq, reduceIte, hb32, hb34])
    rintro v30_0 rfl
    have h := hJ31
    try dsimp only [Out.fin] at h
    refine nz ?_
    refine AW.ts v30_0 (fun hb35 => ?_) (fun hb35 => ?_)
    · have h := ifT hb35 h
      refine AW.op mixed ?_
      refine AW.ret ?_
      obtain ⟨_, h, ho⟩ := outM_some h
      rw [ho, Out.fin_out] at hJ29
      have h := h.trans hJ29
      obtain rfl := Option.some.inj h
      refine nz ?_
      exact .same _
    have h := ifF hb35 h
    refine AW.sk ?_
    exact JoinQ.ar () [0] (Option.some.inj h).symm
  rintro ⟨⟩ rfl
  have h := hJ29
  try dsimp only [Out.fin] at h
  refine nz ?_
  refine AW.one ?_
  refine AW.op mixed ?_
  refine AW.kp [0] [2, 3, 4, 79] ?_
  refine AW.ts (p0.op == (54 : Int)) (fun hb36 => ?_) (fun hb36 => ?_)
  · have h := ifT hb36 h
    refine AW.op mixed ?_
    apply obindE h; intro r37 hx38 h
    have hc := nx (hself60 _ _ hx38)
    refine callP hc ?_
    refine AW.ret ?_
    obtain rfl := Option.some.inj h
    refine nz ?_
    exact .same _
  have h := ifF hb36 h
  refine AW.sk ?_
  refine AW.kp [0] [2, 3, 4] ?_
  refine AW.op mixed ?_
  apply obindE h; intro r39 hx40 h
  have hc := nx (r08_kids_ok (h := hx40))
  refine callP hc ?_
  refine AW.kp [0] [2, 3, 4, 9] ?_
  refine AW.one ?_
  refine obindE h fun oJ42 h hJ42 => ?_
  refine AW.join (S := ByteArray) (fun v41_0 => [(2, .d (.val (.bool p2))), (3, .d (.val (.bool p3))), (4, .ptr 0 6 0 0), (9, .d (.val (.string v41_0)))]) (fun v41_0 => [some ⟨6, [[.d (.val (.int .i64 p0.op)), .d (.val (.string p0.name)), .d (.val (.bool p0.num.neg)), .d (slD u32V p0.num.num), .d (slD u32V p0.num.den), .d (slD NodeA.enc p0.kids)]]⟩]) (fun x => x = oJ42) ?_ ?_
  · skip
    refine AW.one ?_
    refine obindE h fun oJ44 h hJ44 => ?_
    refine AW.join (S := Bool) (fun v43_0 => [(2, .d (.val (.bool p2))), (3, .d (.val (.bool p3))), (4, .ptr 0 6 0 0), (9, .d (.val (.string r39))), (94, .d (.val (.bool v43_0)))]) (fun v43_0 => [some ⟨6, [[.d (.val (.int .i64 p0.op)), .d (.val (.string p0.name)), .d (.val (.bool p0.num.neg)), .d (slD u32V p0.num.num), .d (slD u32V p0.num.den), .d (slD NodeA.enc p0.kids)]]⟩]) (fun x => x = oJ44) ?_ ?_
    · skip
      refine AW.rg mixed ?_
      refine splitK_intro (fun hb45 => ?_) (fun hb45 => ?_)
      · have h := ifT hb45 h
        try simp only [go_sem, Nat.reduceEqDiff, Nat.reduceAdd, Nat.reduceSub, Nat.reduceMul, Nat.reduceLeDiff, Nat.reduceLT, Nat.reduceBEq, reduceIte, hb45]
        refine JoinQ.mk true [0] (Option.some.inj h) (by simp only [go_sem, Nat.reduceEqDiff, Nat.reduceAdd, Nat.reduceSub, Nat.reduceMul, Nat.reduceLeDiff, Nat.reduceLT, Nat.reduceBEq, reduceIte, hb45])
      have h := ifF hb45 h
      try simp only [go_sem, Nat.reduceEqDiff, Nat.reduceAdd, Nat.reduceSub, Nat.reduceMul, Nat.reduceLeDiff, Nat.reduceLT, Nat.reduceBEq, reduceIte, hb45]
      refine JoinQ.mk (p0.op == (37 : Int)) [0] (Option.some.inj h) (by simp only [go_sem, Nat.reduceEqDiff, Nat.reduceAdd, Nat.reduceSub, Nat.reduceMul, Nat.reduceLeDiff, Nat.reduceLT, Nat.reduceBEq, reduceIte, hb45])
    rintro v43_0 rfl
    have h := hJ44
    try dsimp only [Out.fin] at h
    refine nz ?_
    refine AW.ts v43_0 (fun hb46 => ?_) (fun hb46 => ?_)
    · have h := ifT hb46 h
      refine AW.op mixed ?_
      refine AW.kp [0] [2, 3, 4, 9, 98] ?_
      refine AW.ts ((p0.kids.length : Int) == (1 : Int)) (fun hb47 => ?_) (fun hb47 => ?_)
      · have h := ifT hb47 h
        refine AW.rg mixed ?_
        exact JoinQ.ar (⟨#[49]⟩ : ByteArray) [0] (Option.some.inj h)
      have h := ifF hb47 h
      refine AW.sk ?_
      exact JoinQ.ar r39 [0] (Option.some.inj h)
    have h := ifF hb46 h
    refine AW.sk ?_
    exact JoinQ.ar r39 [0] (Option.some.inj h)
  rintro v41_0 rfl
  have h := hJ42
  try dsimp only [Out.fin] at h
  refine nz ?_
  refine AW.one ?_
  refine AW.op mixed ?_
  refine AW.kp [0] [2, 3, 4, 9, 104] ?_
  refine AW.ts ((v41_0.size : Int) != (p0.kids.length : Int)) (fun hb48 => ?_) (fun hb48 => ?_)
  · have h := ifT hb48 h
    refine AW.op mixed ?_
    refine AW.ret ?_
    obtain rfl := Option.some.inj h
    refine nz ?_
    exact .same _
  have h := ifF hb48 h
  refine AW.sk ?_
  refine AW.kp [0] [2, 3, 4, 9] ?_
  refine AW.one ?_
  refine AW.op mixed ?_
  refine AW.kp [0] [2, 3, 4, 9, 10] ?_
  refine obindE h fun oJ52 h hJ52 => ?_
  refine AW.join (S := Unit) (fun _ => [(4, .ptr 0 6 0 0)]) (fun _ => [some ⟨6, [[.d (.val (.int .i64 p0.op)), .d (.val (.string p0.name)), .d (.val (.bool p0.num.neg)), .d (slD u32V p0.num.num), .d (slD u32V p0.num.den), .d (slD NodeA.enc p0.kids)]]⟩]) (fun x => oJ52 = .go x) ?_ ?_
  · refine AW.block ?_
    refine AW.iter (S := Int) (fun i49_0 => [(2, .d (.val (.bool p2))), (3, .d (.val (.bool p3))), (4, .ptr 0 6 0 0), (9, .d (.val (.string v41_0))), (10, .d (.val (.int .i64 i49_0)))]) (fun i49_0 => [some ⟨6, [[.d (.val (.int .i64 p0.op)), .d (.val (.string p0.name)), .d (.val (.bool p0.num.neg)), .d (slD u32V p0.num.num), .d (slD u32V p0.num.den), .d (slD NodeA.enc p0.kids)]]⟩]) [0] h (by simp only [go_sem, Nat.reduceEqDiff, Nat.reduceAdd, Nat.reduceSub, Nat.reduceMul, Nat.reduceLeDiff, Nat.reduceLT, Nat.reduceBEq, reduceIte]) ?_
    rintro again i49_0 h
    try dsimp only at h
    refine AW.one ?_
    refine AW.op mixed ?_
    refine AW.kp [0] [2, 3, 4, 9, 10, 108] ?_
    refine AW.ts (decide (i49_0 < (v41_0.size : Int))) (fun hb53 => ?_) (fun hb53 => ?_)
    · have h := ifT hb53 h
      refine AW.sk ?_
      refine AW.kp [0] [2, 3, 4, 9, 10] ?_
      refine AW.one ?_
      refine obindE h fun oJ55 h hJ55 => ?_
      refine AW.join (S := Unit) (fun _ => [(2, .d (.val (.bool p2))), (3, .d (.val (.bool p3))), (4, .ptr 0 6 0 0), (9, .d (.val (.string v41_0))), (10, .d (.val (.int .i64 i49_0)))]) (fun _ => [some ⟨6, [[.d (.val (.int .i64 p0.op)), .d (.val (.string p0.name)), .d (.val (.bool p0.num.neg)), .d (slD u32V p0.num.num), .d (slD u32V p0.num.den), .d (slD NodeA.enc p0.kids)]]⟩]) (fun x => oJ55 = .go x) ?_ ?_
      · skip
        refine AW.block ?_
        refine AW.one ?_
        refine obindE h fun oJ57 h hJ57 => ?_
        refine AW.join (S := Bool) (fun v56_0 => [(2, .d (.val (.bool p2))), (3, .d (.val (.bool p3))), (4, .ptr 0 6 0 0), (9, .d (.val (.string v41_0))), (10, .d (.val (.int .i64 i49_0))), (134, .d (.val (.bool v56_0)))]) (fun v56_0 => [some ⟨6, [[.d (.val (.int .i64 p0.op)), .d (.val (.string p0.name)), .d (.val (.bool p0.num.neg)), .d (slD u32V p0.num.num), .d (slD u32V p0.num.den), .d (slD NodeA.enc p0.kids)]]⟩]) (fun x => x = oJ57) ?_ ?_
        · skip
          refine AW.reg mixed (by kernel_rfl) ?_
          apply obindE h; intro x58 hx59 h
          apply obindE h; intro c60 hx61 h
          try simp only [go_sem, Nat.reduceEqDiff, Nat.reduceAdd, Nat.reduceSub, Nat.reduceMul, Nat.reduceLeDiff, Nat.reduceLT, Nat.reduceBEq, reduceIte, (idx_some hx59).1, (idx_some hx59).2, hx61, cv_int (P := Try.prog) Try.underlying5 Try.underlying3]
          refine splitK_intro (fun hb62 => ?_) (fun hb62 => ?_)
          · have h := ifT hb62 h
            try simp only [go_sem, Nat.reduceEqDiff, Nat.reduceAdd, Nat.reduceSub, Nat.reduceMul, Nat.reduceLeDiff, Nat.reduceLT, Nat.reduceBEq, reduceIte, (idx_some hx59).1, (idx_some hx59).2, hx61, cv_int (P := Try.prog) Try.underlying5 Try.underlying3, hb62]
            refine splitK_intro (fun hb63 => ?_) (fun hb63 => ?_)
            · have h := ifT hb63 h
              try simp only [go_sem, Nat.reduceEqDiff, Nat.reduceAdd, Nat.reduceSub, Nat.reduceMul, Nat.reduceLeDiff, Nat.reduceLT, Nat.reduceBEq, reduceIte, (idx_some hx59).1, (idx_some hx59).2, hx61, cv_int (P := Try.prog) Try.underlying5 Try.underlying3, hb62, hb63]
              apply obindE h; intro r64 hx65 h
              have hc := nx (hself42 _ _ hx65)
              refine pcallK_intro hc (by simp only [go_sem, Nat.reduceEqDiff, Nat.reduceAdd, Nat.reduceSub, Nat.reduceMul, Nat.reduceLeDiff, Nat.reduceLT, Nat.reduceBEq, reduceIte]) ?_
              try simp only [go_sem, Nat.reduceEqDiff, Nat.reduceAdd, Nat.reduceSub, Nat.reduceMul, Nat.reduceLeDiff, Nat.reduceLT, Nat.reduceBEq, reduceIte, (idx_some hx59).1, (idx_some hx59).2, hx61, cv_int (P := Try.prog) Try.underlying5 Try.underlying3, hb62, hb63]
              refine JoinQ.mk (!r64) [0] (Option.some.inj h) (by simp only [go_sem, Nat.reduceEqDiff, Nat.reduceAdd, Nat.reduceSub, Nat.reduceMul, Nat.reduceLeDiff, Nat.reduceLT, Nat.reduceBEq, reduceIte, (idx_some hx59).1, (idx_some hx59).2, hx61, cv_int (P := Try.prog) Try.underlying5 Try.underlying3, hb62, hb63])
            have h := ifF hb63 h
            try simp only [go_sem, Nat.reduceEqDiff, Nat.reduceAdd, Nat.reduceSub, Nat.reduceMul, Nat.reduceLeDiff, Nat.reduceLT, Nat.reduceBEq, reduceIte, (idx_some hx59).1, (idx_some hx59).2, hx61, cv_int (P := Try.prog) Try.underlying5 Try.underlying3, hb62, hb63]
            apply obindE h; intro r66 hx67 h
            have hc := nx (hself42 _ _ hx67)
            refine pcallK_intro hc (by simp only [go_sem, Nat.reduceEqDiff, Nat.reduceAdd, Nat.reduceSub, Nat.reduceMul, Nat.reduceLeDiff, Nat.reduceLT, Nat.reduceBEq, reduceIte]) ?_
            try simp only [go_sem, Nat.reduceEqDiff, Nat.reduceAdd, Nat.reduceSub, Nat.reduceMul, Nat.reduceLeDiff, Nat.reduceLT, Nat.reduceBEq, reduceIte, (idx_some hx59).1, (idx_some hx59).2, hx61, cv_int (P := Try.prog) Try.underlying5 Try.underlying3, hb62, hb63]
            refine JoinQ.mk (!r66) [0] (Option.some.inj h) (by simp only [go_sem, Nat.reduceEqDiff, Nat.reduceAdd, Nat.reduceSub, Nat.reduceMul, Nat.reduceLeDiff, Nat.reduceLT, Nat.reduceBEq, reduceIte, (idx_some hx59).1, (idx_some hx59).2, hx61, cv_int (P := Try.prog) Try.underlying5 Try.underlying3, hb62, hb63])
          have h := ifF hb62 h
          try simp only [go_sem, Nat.reduceEqDiff, Nat.reduceAdd, Nat.reduceSub, Nat.reduceMul, Nat.reduceLeDiff, Nat.reduceLT, Nat.reduceBEq, reduceIte, (idx_some hx59).1, (idx_some hx59).2, hx61, cv_int (P := Try.prog) Try.underlying5 Try.underlying3, hb62]
          refine splitK_intro (fun hb68 => ?_) (fun hb68 => ?_)
          · have h := ifT hb68 h
            try simp only [go_sem, Nat.reduceEqDiff, Nat.reduceAdd, Nat.reduceSub, Nat.reduceMul, Nat.reduceLeDiff, Nat.reduceLT, Nat.reduceBEq, reduceIte, (idx_some hx59).1, (idx_some hx59).2, hx61, cv_int (P := Try.prog) Try.underlying5 Try.underlying3, hb62, hb68]
            apply obindE h; intro r69 hx70 h
            have hc := nx (hself42 _ _ hx70)
            refine pcallK_intro hc (by simp only [go_sem, Nat.reduceEqDiff, Nat.reduceAdd, Nat.reduceSub, Nat.reduceMul, Nat.reduceLeDiff, Nat.reduceLT, Nat.reduceBEq, reduceIte]) ?_
            try simp only [go_sem, Nat.reduceEqDiff, Nat.reduceAdd, Nat.reduceSub, Nat.reduceMul, Nat.reduceLeDiff, Nat.reduceLT, Nat.reduceBEq, reduceIte, (idx_some hx59).1, (idx_some hx59).2, hx61, cv_int (P := Try.prog) Try.underlying5 Try.underlying3, hb62, hb68]
            refine JoinQ.mk (!r69) [0] (Option.some.inj h) (by simp only [go_sem, Nat.reduceEqDiff, Nat.reduceAdd, Nat.reduceSub, Nat.reduceMul, Nat.reduceLeDiff, Nat.reduceLT, Nat.reduceBEq, reduceIte, (idx_some hx59).1, (idx_some hx59).2, hx61, cv_int (P := Try.prog) Try.underlying5 Try.underlying3, hb62, hb68])
          have h := ifF hb68 h
          try simp only [go_sem, Nat.reduceEqDiff, Nat.reduceAdd, Nat.reduceSub, Nat.reduceMul, Nat.reduceLeDiff, Nat.reduceLT, Nat.reduceBEq, reduceIte, (idx_some hx59).1, (idx_some hx59).2, hx61, cv_int (P := Try.prog) Try.underlying5 Try.underlying3, hb62, hb68]
          apply obindE h; intro r71 hx72 h
          have hc := nx (hself42 _ _ hx72)
          refine pcallK_intro hc (by simp only [go_sem, Nat.reduceEqDiff, Nat.reduceAdd, Nat.reduceSub, Nat.reduceMul, Nat.reduceLeDiff, Nat.reduceLT, Nat.reduceBEq, reduceIte]) ?_
          try simp only [go_sem, Nat.reduceEqDiff, Nat.reduceAdd, Nat.reduceSub, Nat.reduceMul, Nat.reduceLeDiff, Nat.reduceLT, Nat.reduceBEq, reduceIte, (idx_some hx59).1, (idx_some hx59).2, hx61, cv_int (P := Try.prog) Try.underlying5 Try.underlying3, hb62, hb68]
          refine JoinQ.mk (!r71) [0] (Option.some.inj h) (by simp only [go_sem, Nat.reduceEqDiff, Nat.reduceAdd, Nat.reduceSub, Nat.reduceMul, Nat.reduceLeDiff, Nat.reduceLT, Nat.reduceBEq, reduceIte, (idx_some hx59).1, (idx_some hx59).2, hx61, cv_int (P := Try.prog) Try.underlying5 Try.underlying3, hb62, hb68])
        rintro v56_0 rfl
        have h := hJ57
        try dsimp only [Out.fin] at h
        refine nz ?_
        refine AW.ts v56_0 (fun hb73 => ?_) (fun hb73 => ?_)
        · have h := ifT hb73 h
          refine AW.op mixed ?_
          refine AW.ret ?_
          obtain ⟨_, h, ho⟩ := outM_some h
          rw [ho, Out.fin_out] at hJ55
          have h := h.trans hJ55
          obtain ⟨_, h, ho⟩ := outM_some h
          rw [ho, Out.fin_out] at hJ52
          have h := h.trans hJ52
          obtain rfl := Option.some.inj h
          refine nz ?_
          exact .same _
        have h := ifF hb73 h
        refine AW.sk ?_
        exact JoinQ.ar () [0] (Option.some.inj h).symm
      rintro ⟨⟩ rfl
      have h := hJ55
      try dsimp only [Out.fin] at h
      refine nz ?_
      refine AW.rg mixed ?_
      exact NextQ.ar (IntKind.wrap .i64 (i49_0 + (1 : Int))) [0] h
    have h := ifF hb53 h
    refine AW.ex ?_
    exact JoinQ.ar () [0] (Option.some.inj h).symm
  rintro ⟨⟩ rfl
  have h := hJ52
  try dsimp only [Out.fin] at h
  refine nz ?_
  refine AW.kp [0] [4] ?_
  refine AW.one ?_
  refine AW.op mixed ?_
  refine AW.kp [0] [4, 136] ?_
  refine AW.block ?_
  refine AW.op mixed ?_
  refine AW.kp [0] [4, 136, 137] ?_
  refine AW.ts (p0.op == (8 : Int)) (fun hb74 => ?_) (fun hb74 => ?_)
  · have h := ifT hb74 h
    refine AW.one ?_
    refine AW.reg mixed (by kernel_rfl) ?_
    apply obindE h; intro x75 hx76 h
    try simp only [go_sem, Nat.reduceEqDiff, Nat.reduceAdd, Nat.reduceSub, Nat.reduceMul, Nat.reduceLeDiff, Nat.reduceLT, Nat.reduceBEq, reduceIte, (idx_some hx76).1, (idx_some hx76).2]
    refine splitK_intro (fun hb77 => ?_) (fun hb77 => ?_)
    · have h := ifT hb77 h
      try simp only [go_sem, Nat.reduceEqDiff, Nat.reduceAdd, Nat.reduceSub, Nat.reduceMul, Nat.reduceLeDiff, Nat.reduceLT, Nat.reduceBEq, reduceIte, (idx_some hx76).1, (idx_some hx76).2, hb77]
      refine AW.ret ?_
      obtain rfl := Option.some.inj h
      refine nz ?_
      exact .same _
    have h := ifF hb77 h
    try simp only [go_sem, Nat.reduceEqDiff, Nat.reduceAdd, Nat.reduceSub, Nat.reduceMul, Nat.reduceLeDiff, Nat.reduceLT, Nat.reduceBEq, reduceIte, (idx_some hx76).1, (idx_some hx76).2, hb77]
    refine AW.ret ?_
    obtain rfl := Option.some.inj h
    refine nz ?_
    exact .same _
  have h := ifF hb74 h
  refine AW.op mixed ?_
  refine AW.kp [0] [4, 136, 155] ?_
  refine AW.ts (p0.op == (9 : Int)) (fun hb78 => ?_) (fun hb78 => ?_)
  · have h := ifT hb78 h
    refine AW.one ?_
    refine AW.reg mixed (by kernel_rfl) ?_
    apply obindE h; intro x79 hx80 h
    try simp only [go_sem, Nat.reduceEqDiff, Nat.reduceAdd, Nat.reduceSub, Nat.reduceMul, Nat.reduceLeDiff, Nat.reduceLT, Nat.reduceBEq, reduceIte, (idx_some hx80).1, (idx_some hx80).2]
    refine splitK_intro (fun hb81 => ?_) (fun hb81 => ?_)
    · have h := ifT hb81 h
      try simp only [go_sem, Nat.reduceEqDiff, Nat.reduceAdd, Nat.reduceSub, Nat.reduceMul, Nat.reduceLeDiff, Nat.reduceLT, Nat.reduceBEq, reduceIte, (idx_some hx80).1, (idx_some hx80).2, hb81]
      apply obindE h; intro r82 hx83 h
      have hc := nx (r08_Natural_ok (h := hx83))
      refine callK_pure hc (by simp only [go_sem, Nat.reduceEqDiff, Nat.reduceAdd, Nat.reduceSub, Nat.reduceMul, Nat.reduceLeDiff, Nat.reduceLT, Nat.reduceBEq, reduceIte]) ?_
      try simp only [go_sem, Nat.reduceEqDiff, Nat.reduceAdd, Nat.reduceSub, Nat.reduceMul, Nat.reduceLeDiff, Nat.reduceLT, Nat.reduceBEq, reduceIte, (idx_some hx80).1, (idx_some hx80).2, hb81]
      refine AW.ret ?_
      obtain rfl := Option.some.inj h
      refine nz ?_
      exact .same _
    have h := ifF hb81 h
    try simp only [go_sem, Nat.reduceEqDiff, Nat.reduceAdd, Nat.reduceSub, Nat.reduceMul, Nat.reduceLeDiff, Nat.reduceLT, Nat.reduceBEq, reduceIte, (idx_some hx80).1, (idx_some hx80).2, hb81]
    refine AW.ret ?_
    obtain rfl := Option.some.inj h
    refine nz ?_
    exact .same _
  have h := ifF hb78 h
  refine AW.op mixed ?_
  refine AW.kp [0] [4, 172] ?_
  refine AW.ts (p0.op == (39 : Int)) (fun hb84 => ?_) (fun hb84 => ?_)
  · have h := ifT hb84 h
    refine AW.one ?_
    refine AW.reg mixed (by kernel_rfl) ?_
    apply obindE h; intro x85 hx86 h
    try simp only [go_sem, Nat.reduceEqDiff, Nat.reduceAdd, Nat.reduceSub, Nat.reduceMul, Nat.reduceLeDiff, Nat.reduceLT, Nat.reduceBEq, reduceIte, (idx_some hx86).1, (idx_some hx86).2]
    apply obindE h; intro r87 hx88 h
    have hc := nx (r08_differential_ok (h := hx88))
    refine callK_pure hc (by simp only [go_sem, Nat.reduceEqDiff, Nat.reduceAdd, Nat.reduceSub, Nat.reduceMul, Nat.reduceLeDiff, Nat.reduceLT, Nat.reduceBEq, reduceIte]) ?_
    try simp only [go_sem, Nat.reduceEqDiff, Nat.reduceAdd, Nat.reduceSub, Nat.reduceMul, Nat.reduceLeDiff, Nat.reduceLT, Nat.reduceBEq, reduceIte, (idx_some hx86).1, (idx_some hx86).2]
    refine AW.ret ?_
    obtain rfl := Option.some.inj h
    refine nz ?_
    exact .same _
  have h := ifF hb84 h
  refine AW.sk ?_
  refine AW.kp [] [] ?_
  refine AW.op mixed ?_
  refine AW.ret ?_
  obtain rfl := Option.some.inj h
  refine nz ?_
  exact .same _
/-! ### isochrone/isochroneref08.flow -/
def r08_flow_body (K : Nat) (self42 : (NodeA × Int × Bool × Bool) → Option Bool) (self60 : (NodeA × Bool × Bool) → Option Bool) (p0 : NodeA) (p1 : Bool) (p2 : Bool) : Option Bool := ((
    ((
      if (decide ((p0.kids.length : Int) < (2 : Int))) then
        some true
      else
        (r08_primed K p0).bind fun r6 => 
        if r6 then
          some true
        else
          (idx p0.kids (IntKind.wrap .i64 ((p0.kids.length : Int) - (1 : Int)))).bind fun x9 => 
          (self42 (x9, (2 : Int), p1, p2)).bind fun r11 => 
          some (!r11)) : Option Bool).bind (fun v3_0 => 
    if v3_0 then
      outM (
        some false)
    else
      some (.go ()))) : Option (Out Unit _)).bind (Out.fin fun _ => 
  ((iter (S := Int) (R := Out Unit _) K (fun again i14_0 => 
    if (decide (i14_0 < (IntKind.wrap .i64 ((p0.kids.length : Int) - (1 : Int))))) then
      ((
        (idx p0.kids i14_0).bind fun x21 => 
        ((
          ((
            if (x21.op == (56 : Int)) then
              if (decide (i14_0 < (IntKind.wrap .i64 ((p0.kids.length : Int) - (2 : Int))))) then
                some true
              else
                if (x21.op != (56 : Int)) then
                  if (x21.op != (55 : Int)) then
                    some true
                  else
                    (self42 (x21, (4 : Int), p1, p2)).bind fun r31 => 
                    some (!r31)
                else
                  (self42 (x21, (4 : Int), p1, p2)).bind fun r33 => 
                  some (!r33)
            else
              if (x21.op != (56 : Int)) then
                if (x21.op != (55 : Int)) then
                  some true
                else
                  (self42 (x21, (4 : Int), p1, p2)).bind fun r37 => 
                  some (!r37)
              else
                (self42 (x21, (4 : Int), p1, p2)).bind fun r39 => 
                some (!r39)) : Option Bool).bind (fun v25_0 => 
          if v25_0 then
            outM (
              outM (
                outM (
                  some false)))
          else
            some (.go ()))) : Option (Out Unit _)).bind (Out.fin fun _ => 
        ((iter (S := Int) (R := Out Unit _) K (fun again i42_0 => 
          if (decide (i42_0 < i14_0)) then
            ((
              ((
                if (x21.op == (55 : Int)) then
                  (idx p0.kids i42_0).bind fun x52 => 
                  some (x52.name.toList == x21.name.toList)
                else
                  some false) : Option Bool).bind (fun v49_0 => 
              if v49_0 then
                outM (
                  outM (
                    outM (
                      outM (
                        some false))))
              else
                some (.go ()))) : Option (Out Unit _)).bind (Out.fin fun _ => 
            again (IntKind.wrap .i64 (i42_0 + (1 : Int))))
          else
            some (.go ())) (0 : Int)) : Option (Out Unit _)).bind (Out.fin fun _ => 
        some (.go ())))) : Option (Out Unit _)).bind (Out.fin fun _ => 
      again (IntKind.wrap .i64 (i14_0 + (1 : Int))))
    else
      some (.go ())) (0 : Int)) : Option (Out Unit _)).bind (Out.fin fun _ => 
  some true))
set_option maxHeartbeats 4000000 in
theorem r08_flow_step (K : Nat) (self42 : (NodeA × Int × Bool × Bool) → Option Bool) (self60 : (NodeA × Bool × Bool) → Option Bool) (hself42 : ∀ (q : NodeA × Int × Bool × Bool) (r : Bool), self42 q = some r → Cn Try.prog 42 [aggV q.1.enc, .d (.val (.int .i64 q.2.1)), .d (.val (.bool q.2.2.1)), .d (.val (.bool q.2.2.2))] (.d (.val (.bool r)))) (hself60 : ∀ (q : NodeA × Bool × Bool) (r : Bool), self60 q = some r → Cn Try.prog 60 [aggV q.1.enc, .d (.val (.bool q.2.1)), .d (.val (.bool q.2.2))] (.d (.val (.bool r)))) (p0 : NodeA) (p1 : Bool) (p2 : Bool) (r : Bool) (h : r08_flow_body K self42 self60 p0 p1 p2 = some r) : Cn Try.prog 60 [aggV p0.enc, .d (.val (.bool p1)), .d (.val (.bool p2))] (.d (.val (.bool r))) := by
  refine Cn.ofA mixed Try.func60 rfl Try.call60 Try.ntmps60 Try.results60 (by simp) (by simp only [go_sem, Nat.reduceEqDiff, Nat.reduceAdd, Nat.reduceSub, Nat.reduceMul, Nat.reduceLeDiff, Nat.reduceLT, Nat.reduceBEq, reduceIte]) fun hfit => ?_
  unfold r08_flow_body at h
  refine AW.kp [] [0, 1, 2] ?_
  refine AW.op mixed ?_
  refine AW.kp [0] [1, 2, 3] ?_
  refine AW.op mixed ?_
  refine AW.kp [0] [1, 2, 3, 7] ?_
  refine AW.one ?_
  refine obindE h fun oJ2 h hJ2 => ?_
  refine AW.join (S := Unit) (fun _ => [(1, .d (.val (.bool p1))), (2, .d (.val (.bool p2))), (3, .ptr 0 6 0 0), (7, .d (.val (.int .i64 (p0.kids.length : Int))))]) (fun _ => [some ⟨6, [[.d (.val (.int .i64 p0.op)), .d (.val (.string p0.name)), .d (.val (.bool p0.num.neg)), .d (slD u32V p0.num.num), .d (slD u32V p0.num.den), .d (slD NodeA.enc p0.kids)]]⟩]) (fun x => oJ2 = .go x) ?_ ?_
  · skip
    refine AW.one ?_
    refine obindE h fun oJ4 h hJ4 => ?_
    refine AW.join (S := Bool) (fun v3_0 => [(1, .d (.val (.bool p1))), (2, .d (.val (.bool p2))), (3, .ptr 0 6 0 0), (7, .d (.val (.int .i64 (p0.kids.length : Int)))), (31, .d (.val (.bool v3_0)))]) (fun v3_0 => [some ⟨6, [[.d (.val (.int .i64 p0.op)), .d (.val (.string p0.name)), .d (.val (.bool p0.num.neg)), .d (slD u32V p0.num.num), .d (slD u32V p0.num.den), .d (slD NodeA.enc p0.kids)]]⟩]) (fun x => x = oJ4) ?_ ?_
    · skip
      refine AW.rg mixed ?_
      refine splitK_intro (fun hb5 => ?_) (fun hb5 => ?_)
      · have h := ifT hb5 h
        try simp only [go_sem, Nat.reduceEqDiff, Nat.reduceAdd, Nat.reduceSub, Nat.reduceMul, Nat.reduceLeDiff, Nat.reduceLT, Nat.reduceBEq, reduceIte, hb5]
        refine JoinQ.mk true [0] (Option.some.inj h) (by simp only [go_sem, Nat.reduceEqDiff, Nat.reduceAdd, Nat.reduceSub, Nat.reduceMul, Nat.reduceLeDiff, Nat.reduceLT, Nat.reduceBEq, reduceIte, hb5])
      have h := ifF hb5 h
      try simp only [go_sem, Nat.reduceEqDiff, Nat.reduceAdd, Nat.reduceSub, Nat.reduceMul, Nat.reduceLeDiff, Nat.reduceLT, Nat.reduceBEq, reduceIte, hb5]
      apply obindE h; intro r6 hx7 h
      have hc := nx (r08_primed_ok (h := hx7))
      refine callK_pure hc (by simp only [go_sem, Nat.reduceEqDiff, Nat.reduceAdd, Nat.reduceSub, Nat.reduceMul, Nat.reduceLeDiff, Nat.reduceLT, Nat.reduceBEq, reduceIte]) ?_
      try simp only [go_sem, Nat.reduceEqDiff, Nat.reduceAdd, Nat.reduceSub, Nat.reduceMul, Nat.reduceLeDiff, Nat.reduceLT, Nat.reduceBEq, reduceIte, hb5]
      refine splitK_intro (fun hb8 => ?_) (fun hb8 => ?_)
      · have h := ifT hb8 h
        try simp only [go_sem, Nat.reduceEqDiff, Nat.reduceAdd, Nat.reduceSub, Nat.reduceMul, Nat.reduceLeDiff, Nat.reduceLT, Nat.reduceBEq, reduceIte, hb5, hb8]
        refine JoinQ.mk true [0] (Option.some.inj h) (by simp only [go_sem, Nat.reduceEqDiff, Nat.reduceAdd, Nat.reduceSub, Nat.reduceMul, Nat.reduceLeDiff, Nat.reduceLT, Nat.reduceBEq, reduceIte, hb5, hb8])
      have h := ifF hb8 h
      apply obindE h; intro x9 hx10 h
      try simp only [go_sem, Nat.reduceEqDiff, Nat.reduceAdd, Nat.reduceSub, Nat.reduceMul, Nat.reduceLeDiff, Nat.reduceLT, Nat.reduceBEq, reduceIte, hb5, hb8, (idx_some hx10).1, (idx_some hx10).2]
      apply obindE h; intro r11 hx12 h
      have hc := nx (hself42 _ _ hx12)
      refine callK_pure hc (by simp only [go_sem, Nat.reduceEqDiff, Nat.reduceAdd, Nat.reduceSub, Nat.reduceMul, Nat.reduceLeDiff, Nat.reduceLT, Nat.reduceBEq, reduceIte]) ?_
      try simp only [go_sem, Nat.reduceEqDiff, Nat.reduceAdd, Nat.reduceSub, Nat.reduceMul, Nat.reduceLeDiff, Nat.reduceLT, Nat.reduceBEq, reduceIte, hb5, hb8, (idx_some hx10).1, (idx_some hx10).2]
      refine JoinQ.mk (!r11) [0] (Option.some.inj h) (by simp only [go_sem, Nat.reduceEqDiff, Nat.reduceAdd, Nat.reduceSub, Nat.reduceMul, Nat.reduceLeDiff, Nat.reduceLT, Nat.reduceBEq, reduceIte, hb5, hb8, (idx_some hx10).1, (idx_some hx10).2])
    rintro v3_0 rfl
    have h := hJ4
    try dsimp only [Out.fin] at h
    refine nz ?_
    refine AW.ts v3_0 (fun hb13 => ?_) (fun hb13 => ?_)
    · have h := ifT hb13 h
      refine AW.op mixed ?_
      refine AW.ret ?_
      obtain ⟨_, h, ho⟩ := outM_some h
      rw [ho, Out.fin_out] at hJ2
      have h := h.trans hJ2
      obtain rfl := Option.some.inj h
      refine nz ?_
      exact .same _
    have h := ifF hb13 h
    refine AW.sk ?_
    exact JoinQ.ar () [0] (Option.some.inj h).symm
  rintro ⟨⟩ rfl
  have h := hJ2
  try dsimp only [Out.fin] at h
  refine nz ?_
  refine AW.one ?_
  refine AW.op mixed ?_
  refine AW.kp [0] [1, 2, 3, 7, 8] ?_
  refine obindE h fun oJ17 h hJ17 => ?_
  refine AW.join (S := Unit) (fun _ => []) (fun _ => []) (fun x => oJ17 = .go x) ?_ ?_
  · refine AW.block ?_
    refine AW.iter (S := Int) (fun i14_0 => [(1, .d (.val (.bool p1))), (2, .d (.val (.bool p2))), (3, .ptr 0 6 0 0), (7, .d (.val (.int .i64 (p0.kids.length : Int)))), (8, .d (.val (.int .i64 i14_0)))]) (fun i14_0 => [some ⟨6, [[.d (.val (.int .i64 p0.op)), .d (.val (.string p0.name)), .d (.val (.bool p0.num.neg)), .d (slD u32V p0.num.num), .d (slD u32V p0.num.den), .d (slD NodeA.enc p0.kids)]]⟩]) [0] h (by simp only [go_sem, Nat.reduceEqDiff, Nat.reduceAdd, Nat.reduceSub, Nat.reduceMul, Nat.reduceLeDiff, Nat.reduceLT, Nat.reduceBEq, reduceIte]) ?_
    rintro again i14_0 h
    try dsimp only at h
    refine AW.one ?_
    refine AW.op mixed ?_
    refine AW.kp [0] [1, 2, 3, 7, 8, 35] ?_
    refine AW.ts (decide (i14_0 < (IntKind.wrap .i64 ((p0.kids.length : Int) - (1 : Int))))) (fun hb18 => ?_) (fun hb18 => ?_)
    · have h := ifT hb18 h
      refine AW.sk ?_
      refine AW.kp [0] [1, 2, 3, 7, 8] ?_
      refine AW.one ?_
      refine obindE h fun oJ20 h hJ20 => ?_
      refine AW.join (S := Unit) (fun _ => [(1, .d (.val (.bool p1))), (2, .d (.val (.bool p2))), (3, .ptr 0 6 0 0), (7, .d (.val (.int .i64 (p0.kids.length : Int)))), (8, .d (.val (.int .i64 i14_0)))]) (fun _ => [some ⟨6, [[.d (.val (.int .i64 p0.op)), .d (.val (.string p0.name)), .d (.val (.bool p0.num.neg)), .d (slD u32V p0.num.num), .d (slD u32V p0.num.den), .d (slD NodeA.enc p0.kids)]]⟩]) (fun x => oJ20 = .go x) ?_ ?_
      · skip
        refine AW.block ?_
        refine AW.one ?_
        refine AW.reg mixed (by kernel_rfl) ?_
        apply obindE h; intro x21 hx22 h
        try simp only [go_sem, Nat.reduceEqDiff, Nat.reduceAdd, Nat.reduceSub, Nat.reduceMul, Nat.reduceLeDiff, Nat.reduceLT, Nat.reduceBEq, reduceIte, (idx_some hx22).1, (idx_some hx22).2]
        refine AW.cut [0, 6] [(1, .d (.val (.bool p1))), (2, .d (.val (.bool p2))), (3, .ptr 0 6 0 0), (7, .d (.val (.int .i64 (p0.kids.length : Int)))), (8, .d (.val (.int .i64 i14_0))), (9, .ptr 1 6 0 0)] [some ⟨6, [[.d (.val (.int .i64 p0.op)), .d (.val (.string p0.name)), .d (.val (.bool p0.num.neg)), .d (slD u32V p0.num.num), .d (slD u32V p0.num.den), .d (slD NodeA.enc p0.kids)]]⟩, some ⟨6, [[.d (.val (.int .i64 x21.op)), .d (.val (.string x21.name)), .d (.val (.bool x21.num.neg)), .d (slD u32V x21.num.num), .d (slD u32V x21.num.den), .d (slD NodeA.enc x21.kids)]]⟩] (by simp only [go_sem, Nat.reduceEqDiff, Nat.reduceAdd, Nat.reduceSub, Nat.reduceMul, Nat.reduceLeDiff, Nat.reduceLT, Nat.reduceBEq, reduceIte, (idx_some hx22).1, (idx_some hx22).2]) ?_
        refine AW.one ?_
        refine obindE h fun oJ24 h hJ24 => ?_
        refine AW.join (S := Unit) (fun _ => [(1, .d (.val (.bool p1))), (2, .d (.val (.bool p2))), (3, .ptr 0 6 0 0), (7, .d (.val (.int .i64 (p0.kids.length : Int)))), (8, .d (.val (.int .i64 i14_0))), (9, .ptr 1 6 0 0)]) (fun _ => [some ⟨6, [[.d (.val (.int .i64 p0.op)), .d (.val (.string p0.name)), .d (.val (.bool p0.num.neg)), .d (slD u32V p0.num.num), .d (slD u32V p0.num.den), .d (slD NodeA.enc p0.kids)]]⟩, some ⟨6, [[.d (.val (.int .i64 x21.op)), .d (.val (.string x21.name)), .d (.val (.bool x21.num.neg)), .d (slD u32V x21.num.num), .d (slD u32V x21.num.den), .d (slD NodeA.enc x21.kids)]]⟩]) (fun x => oJ24 = .go x) ?_ ?_
        · skip
          refine AW.one ?_
          refine obindE h fun oJ26 h hJ26 => ?_
          refine AW.join (S := Bool) (fun v25_0 => [(1, .d (.val (.bool p1))), (2, .d (.val (.bool p2))), (3, .ptr 0 6 0 0), (7, .d (.val (.int .i64 (p0.kids.length : Int)))), (8, .d (.val (.int .i64 i14_0))), (9, .ptr 1 6 0 0), (68, .d (.val (.bool v25_0)))]) (fun v25_0 => [some ⟨6, [[.d (.val (.int .i64 p0.op)), .d (.val (.string p0.name)), .d (.val (.bool p0.num.neg)), .d (slD u32V p0.num.num), .d (slD u32V p0.num.den), .d (slD NodeA.enc p0.kids)]]⟩, some ⟨6, [[.d (.val (.int .i64 x21.op)), .d (.val (.string x21.name)), .d (.val (.bool x21.num.neg)), .d (slD u32V x21.num.num), .d (slD u32V x21.num.den), .d (slD NodeA.enc x21.kids)]]⟩]) (fun x => x = oJ26) ?_ ?_
          · skip
            refine AW.rg mixed ?_
            refine splitK_intro (fun hb27 => ?_) (fun hb27 => ?_)
            · have h := ifT hb27 h
              try simp only [go_sem, Nat.reduceEqDiff, Nat.reduceAdd, Nat.reduceSub, Nat.reduceMul, Nat.reduceLeDiff, Nat.reduceLT, Nat.reduceBEq, reduceIte, hb27]
              refine splitK_intro (fun hb28 => ?_) (fun hb28 => ?_)
              · have h := ifT hb28 h
                try simp only [go_sem, Nat.reduceEqDiff, Nat.reduceAdd, Nat.reduceSub, Nat.reduceMul, Nat.reduceLeDiff, Nat.reduceLT, Nat.reduceBEq, reduceIte, hb27, hb28]
                refine JoinQ.mk true [0, 1] (Option.some.inj h) (by simp only [go_sem, Nat.reduceEqDiff, Nat.reduceAdd, Nat.reduceSub, Nat.reduceMul, Nat.reduceLeDiff, Nat.reduceLT, Nat.reduceBEq, reduceIte, hb27, hb28])
              have h := ifF hb28 h
              try simp only [go_sem, Nat.reduceEqDiff, Nat.reduceAdd, Nat.reduceSub, Nat.reduceMul, Nat.reduceLeDiff, Nat.reduceLT, Nat.reduceBEq, reduceIte, hb27, hb28]
              refine splitK_intro (fun hb29 => ?_) (fun hb29 => ?_)
              · have h := ifT hb29 h
                try simp only [go_sem, Nat.reduceEqDiff, Nat.reduceAdd, Nat.reduceSub, Nat.reduceMul, Nat.reduceLeDiff, Nat.reduceLT, Nat.reduceBEq, reduceIte, hb27, hb28, hb29]
                refine splitK_intro (fun hb30 => ?_) (fun hb30 => ?_)
                · have h := ifT hb30 h
                  try simp only [go_sem, Nat.reduceEqDiff, Nat.reduceAdd, Nat.reduceSub, Nat.reduceMul, Nat.reduceLeDiff, Nat.reduceLT, Nat.reduceBEq, reduceIte, hb27, hb28, hb29, hb30]
                  refine JoinQ.mk true [0, 1] (Option.some.inj h) (by simp only [go_sem, Nat.reduceEqDiff, Nat.reduceAdd, Nat.reduceSub, Nat.reduceMul, Nat.reduceLeDiff, Nat.reduceLT, Nat.reduceBEq, reduceIte, hb27, hb28, hb29, hb30])
                have h := ifF hb30 h
                try simp only [go_sem, Nat.reduceEqDiff, Nat.reduceAdd, Nat.reduceSub, Nat.reduceMul, Nat.reduceLeDiff, Nat.reduceLT, Nat.reduceBEq, reduceIte, hb27, hb28, hb29, hb30]
                apply obindE h; intro r31 hx32 h
                have hc := nx (hself42 _ _ hx32)
                refine callK_pure hc (by simp only [go_sem, Nat.reduceEqDiff, Nat.reduceAdd, Nat.reduceSub, Nat.reduceMul, Nat.reduceLeDiff, Nat.reduceLT, Nat.reduceBEq, reduceIte]) ?_
                try simp only [go_sem, Nat.reduceEqDiff, Nat.reduceAdd, Nat.reduceSub, Nat.reduceMul, Nat.reduceLeDiff, Nat.reduceLT, Nat.reduceBEq, reduceIte, hb27, hb28, hb29, hb30]
                refine JoinQ.mk (!r31) [0, 1] (Option.some.inj h) (by simp only [go_sem, Nat.reduceEqDiff, Nat.reduceAdd, Nat.reduceSub, Nat.reduceMul, Nat.reduceLeDiff, Nat.reduceLT, Nat.reduceBEq, reduceIte, hb27, hb28, hb29, hb30])
              have h := ifF hb29 h
              try simp only [go_sem, Nat.reduceEqDiff, Nat.reduceAdd, Nat.reduceSub, Nat.reduceMul, Nat.reduceLeDiff, Nat.reduceLT, Nat.reduceBEq, reduceIte, hb27, hb28, hb29]
              apply obindE h; intro r33 hx34 h
              have hc := nx (hself42 _ _ hx34)
              refine callK_pure hc (by simp only [go_sem, Nat.reduceEqDiff, Nat.reduceAdd, Nat.reduceSub, Nat.reduceMul, Nat.reduceLeDiff, Nat.reduceLT, Nat.reduceBEq, reduceIte]) ?_
              try simp only [go_sem, Nat.reduceEqDiff, Nat.reduceAdd, Nat.reduceSub, Nat.reduceMul, Nat.reduceLeDiff, Nat.reduceLT, Nat.reduceBEq, reduceIte, hb27, hb28, hb29]
              refine JoinQ.mk (!r33) [0, 1] (Option.some.inj h) (by simp only [go_sem, Nat.reduceEqDiff, Nat.reduceAdd, Nat.reduceSub, Nat.reduceMul, Nat.reduceLeDiff, Nat.reduceLT, Nat.reduceBEq, reduceIte, hb27, hb28, hb29])
            have h := ifF hb27 h
            try simp only [go_sem, Nat.reduceEqDiff, Nat.reduceAdd, Nat.reduceSub, Nat.reduceMul, Nat.reduceLeDiff, Nat.reduceLT, Nat.reduceBEq, reduceIte, hb27]
            refine splitK_intro (fun hb35 => ?_) (fun hb35 => ?_)
            · have h := ifT hb35 h
              try simp only [go_sem, Nat.reduceEqDiff, Nat.reduceAdd, Nat.reduceSub, Nat.reduceMul, Nat.reduceLeDiff, Nat.reduceLT, Nat.reduceBEq, reduceIte, hb27, hb35]
              refine splitK_intro (fun hb36 => ?_) (fun hb36 => ?_)
              · have h := ifT hb36 h
                try simp only [go_sem, Nat.reduceEqDiff, Nat.reduceAdd, Nat.reduceSub, Nat.reduceMul, Nat.reduceLeDiff, Nat.reduceLT, Nat.reduceBEq, reduceIte, hb27, hb35, hb36]
                refine JoinQ.mk true [0, 1] (Option.some.inj h) (by simp only [go_sem, Nat.reduceEqDiff, Nat.reduceAdd, Nat.reduceSub, Nat.reduceMul, Nat.reduceLeDiff, Nat.reduceLT, Nat.reduceBEq, reduceIte, hb27, hb35, hb36])
              have h := ifF hb36 h
              try simp only [go_sem, Nat.reduceEqDiff, Nat.reduceAdd, Nat.reduceSub, Nat.reduceMul, Nat.reduceLeDiff, Nat.reduceLT, Nat.reduceBEq, reduceIte, hb27, hb35, hb36]
              apply obindE h; intro r37 hx38 h
              have hc := nx (hself42 _ _ hx38)
              refine callK_pure hc (by simp only [go_sem, Nat.reduceEqDiff, Nat.reduceAdd, Nat.reduceSub, Nat.reduceMul, Nat.reduceLeDiff, Nat.reduceLT, Nat.reduceBEq, reduceIte]) ?_
              try simp only [go_sem, Nat.reduceEqDiff, Nat.reduceAdd, Nat.reduceSub, Nat.reduceMul, Nat.reduceLeDiff, Nat.reduceLT, Nat.reduceBEq, reduceIte, hb27, hb35, hb36]
              refine JoinQ.mk (!r37) [0, 1] (Option.some.inj h) (by simp only [go_sem, Nat.reduceEqDiff, Nat.reduceAdd, Nat.reduceSub, Nat.reduceMul, Nat.reduceLeDiff, Nat.reduceLT, Nat.reduceBEq, reduceIte, hb27, hb35, hb36])
            have h := ifF hb35 h
            try simp only [go_sem, Nat.reduceEqDiff, Nat.reduceAdd, Nat.reduceSub, Nat.reduceMul, Nat.reduceLeDiff, Nat.reduceLT, Nat.reduceBEq, reduceIte, hb27, hb35]
            apply obindE h; intro r39 hx40 h
            have hc := nx (hself42 _ _ hx40)
            refine callK_pure hc (by simp only [go_sem, Nat.reduceEqDiff, Nat.reduceAdd, Nat.reduceSub, Nat.reduceMul, Nat.reduceLeDiff, Nat.reduceLT, Nat.reduceBEq, reduceIte]) ?_
            try simp only [go_sem, Nat.reduceEqDiff, Nat.reduceAdd, Nat.reduceSub, Nat.reduceMul, Nat.reduceLeDiff, Nat.reduceLT, Nat.reduceBEq, reduceIte, hb27, hb35]
            refine JoinQ.mk (!r39) [0, 1] (Option.some.inj h) (by simp only [go_sem, Nat.reduceEqDiff, Nat.reduceAdd, Nat.reduceSub, Nat.reduceMul, Nat.reduceLeDiff, Nat.reduceLT, Nat.reduceBEq, reduceIte, hb27, hb35])
          rintro v25_0 rfl
          have h := hJ26
          try dsimp only [Out.fin] at h
          refine nz ?_
          refine AW.ts v25_0 (fun hb41 => ?_) (fun hb41 => ?_)
          · have h := ifT hb41 h
            refine AW.op mixed ?_
            refine AW.ret ?_
            obtain ⟨_, h, ho⟩ := outM_some h
            rw [ho, Out.fin_out] at hJ24
            have h := h.trans hJ24
            obtain ⟨_, h, ho⟩ := outM_some h
            rw [ho, Out.fin_out] at hJ20
            have h := h.trans hJ20
            obtain ⟨_, h, ho⟩ := outM_some h
            rw [ho, Out.fin_out] at hJ17
            have h := h.trans hJ17
            obtain rfl := Option.some.inj h
            refine nz ?_
            exact .same _
          have h := ifF hb41 h
          refine AW.sk ?_
          exact JoinQ.ar () [0, 1] (Option.some.inj h).symm
        rintro ⟨⟩ rfl
        have h := hJ24
        try dsimp only [Out.fin] at h
        refine nz ?_
        refine AW.op mixed ?_
        refine AW.kp [0, 1] [1, 2, 3, 7, 8, 9, 10] ?_
        refine obindE h fun oJ45 h hJ45 => ?_
        refine AW.join (S := Unit) (fun _ => [(1, .d (.val (.bool p1))), (2, .d (.val (.bool p2))), (3, .ptr 0 6 0 0), (7, .d (.val (.int .i64 (p0.kids.length : Int)))), (8, .d (.val (.int .i64 i14_0)))]) (fun _ => [some ⟨6, [[.d (.val (.int .i64 p0.op)), .d (.val (.string p0.name)), .d (.val (.bool p0.num.neg)), .d (slD u32V p0.num.num), .d (slD u32V p0.num.den), .d (slD NodeA.enc p0.kids)]]⟩]) (fun x => oJ45 = .go x) ?_ ?_
        · refine AW.block ?_
          refine AW.iter (S := Int) (fun i42_0 => [(1, .d (.val (.bool p1))), (2, .d (.val (.bool p2))), (3, .ptr 0 6 0 0), (7, .d (.val (.int .i64 (p0.kids.length : Int)))), (8, .d (.val (.int .i64 i14_0))), (9, .ptr 1 6 0 0), (10, .d (.val (.int .i64 i42_0)))]) (fun i42_0 => [some ⟨6, [[.d (.val (.int .i64 p0.op)), .d (.val (.string p0.name)), .d (.val (.bool p0.num.neg)), .d (slD u32V p0.num.num), .d (slD u32V p0.num.den), .d (slD NodeA.enc p0.kids)]]⟩, some ⟨6, [[.d (.val (.int .i64 x21.op)), .d (.val (.string x21.name)), .d (.val (.bool x21.num.neg)), .d (slD u32V x21.num.num), .d (slD u32V x21.num.den), .d (slD NodeA.enc x21.kids)]]⟩]) [0, 1] h (by simp only [go_sem, Nat.reduceEqDiff, Nat.reduceAdd, Nat.reduceSub, Nat.reduceMul, Nat.reduceLeDiff, Nat.reduceLT, Nat.reduceBEq, reduceIte]) ?_
          rintro again i42_0 h
          try dsimp only at h
          refine AW.one ?_
          refine AW.op mixed ?_
          refine AW.kp [0, 1] [1, 2, 3, 7, 8, 9, 10, 71] ?_
          refine AW.ts (decide (i42_0 < i14_0)) (fun hb46 => ?_) (fun hb46 => ?_)
          · have h := ifT hb46 h
            refine AW.sk ?_
            refine AW.kp [0, 1] [1, 2, 3, 7, 8, 9, 10] ?_
            refine AW.one ?_
            refine obindE h fun oJ48 h hJ48 => ?_
            refine AW.join (S := Unit) (fun _ => [(1, .d (.val (.bool p1))), (2, .d (.val (.bool p2))), (3, .ptr 0 6 0 0), (7, .d (.val (.int .i64 (p0.kids.length : Int)))), (8, .d (.val (.int .i64 i14_0))), (9, .ptr 1 6 0 0), (10, .d (.val (.int .i64 i42_0)))]) (fun _ => [some ⟨6, [[.d (.val (.int .i64 p0.op)), .d (.val (.string p0.name)), .d (.val (.bool p0.num.neg)), .d (slD u32V p0.num.num), .d (slD u32V p0.num.den), .d (slD NodeA.enc p0.kids)]]⟩, some ⟨6, [[.d (.val (.int .i64 x21.op)), .d (.val (.string x21.name)), .d (.val (.bool x21.num.neg)), .d (slD u32V x21.num.num), .d (slD u32V x21.num.den), .d (slD NodeA.enc x21.kids)]]⟩]) (fun x => oJ48 = .go x) ?_ ?_
            · skip
              refine AW.block ?_
              refine AW.one ?_
              refine obindE h fun oJ50 h hJ50 => ?_
              refine AW.join (S := Bool) (fun v49_0 => [(1, .d (.val (.bool p1))), (2, .d (.val (.bool p2))), (3, .ptr 0 6 0 0), (7, .d (.val (.int .i64 (p0.kids.length : Int)))), (8, .d (.val (.int .i64 i14_0))), (9, .ptr 1 6 0 0), (10, .d (.val (.int .i64 i42_0))), (87, .d (.val (.bool v49_0)))]) (fun v49_0 => [some ⟨6, [[.d (.val (.int .i64 p0.op)), .d (.val (.string p0.name)), .d (.val (.bool p0.num.neg)), .d (slD u32V p0.num.num), .d (slD u32V p0.num.den), .d (slD NodeA.enc p0.kids)]]⟩, some ⟨6, [[.d (.val (.int .i64 x21.op)), .d (.val (.string x21.name)), .d (.val (.bool x21.num.neg)), .d (slD u32V x21.num.num), .d (slD u32V x21.num.den), .d (slD NodeA.enc x21.kids)]]⟩]) (fun x => x = oJ50) ?_ ?_
              · skip
                refine AW.rg mixed ?_
                refine splitK_intro (fun hb51 => ?_) (fun hb51 => ?_)
                · have h := ifT hb51 h
                  apply obindE h; intro x52 hx53 h
                  try simp only [go_sem, Nat.reduceEqDiff, Nat.reduceAdd, Nat.reduceSub, Nat.reduceMul, Nat.reduceLeDiff, Nat.reduceLT, Nat.reduceBEq, reduceIte, hb51, (idx_some hx53).1, (idx_some hx53).2]
                  refine JoinQ.mk (x52.name.toList == x21.name.toList) [0, 1] (Option.some.inj h) (by simp only [go_sem, Nat.reduceEqDiff, Nat.reduceAdd, Nat.reduceSub, Nat.reduceMul, Nat.reduceLeDiff, Nat.reduceLT, Nat.reduceBEq, reduceIte, hb51, (idx_some hx53).1, (idx_some hx53).2])
                have h := ifF hb51 h
                try simp only [go_sem, Nat.reduceEqDiff, Nat.reduceAdd, Nat.reduceSub, Nat.reduceMul, Nat.reduceLeDiff, Nat.reduceLT, Nat.reduceBEq, reduceIte, hb51]
                refine JoinQ.mk false [0, 1] (Option.some.inj h) (by simp only [go_sem, Nat.reduceEqDiff, Nat.reduceAdd, Nat.reduceSub, Nat.reduceMul, Nat.reduceLeDiff, Nat.reduceLT, Nat.reduceBEq, reduceIte, hb51])
              rintro v49_0 rfl
              have h := hJ50
              try dsimp only [Out.fin] at h
              refine nz ?_
              refine AW.ts v49_0 (fun hb54 => ?_) (fun hb54 => ?_)
              · have h := ifT hb54 h
                refine AW.op mixed ?_
                refine AW.ret ?_
                obtain ⟨_, h, ho⟩ := outM_some h
                rw [ho, Out.fin_out] at hJ48
                have h := h.trans hJ48
                obtain ⟨_, h, ho⟩ := outM_some h
                rw [ho, Out.fin_out] at hJ45
                have h := h.trans hJ45
                obtain ⟨_, h, ho⟩ := outM_some h
                rw [ho, Out.fin_out] at hJ20
                have h := h.trans hJ20
                obtain ⟨_, h, ho⟩ := outM_some h
                rw [ho, Out.fin_out] at hJ17
                have h := h.trans hJ17
                obtain rfl := Option.some.inj h
                refine nz ?_
                exact .same _
              have h := ifF hb54 h
              refine AW.sk ?_
              exact JoinQ.ar () [0, 1] (Option.some.inj h).symm
            rintro ⟨⟩ rfl
            have h := hJ48
            try dsimp only [Out.fin] at h
            refine nz ?_
            refine AW.rg mixed ?_
            exact NextQ.ar (IntKind.wrap .i64 (i42_0 + (1 : Int))) [0, 1] h
          have h := ifF hb46 h
          refine AW.ex ?_
          exact JoinQ.ar () [0] (Option.some.inj h).symm
        rintro ⟨⟩ rfl
        have h := hJ45
        try dsimp only [Out.fin] at h
        refine nz ?_
        exact JoinQ.ar () [0] (Option.some.inj h).symm
      rintro ⟨⟩ rfl
      have h := hJ20
      try dsimp only [Out.fin] at h
      refine nz ?_
      refine AW.rg mixed ?_
      exact NextQ.ar (IntKind.wrap .i64 (i14_0 + (1 : Int))) [0] h
    have h := ifF hb18 h
    refine AW.ex ?_
    exact JoinQ.ar () [] (Option.some.inj h).symm
  rintro ⟨⟩ rfl
  have h := hJ17
  try dsimp only [Out.fin] at h
  refine nz ?_
  refine AW.kp [] [] ?_
  refine AW.op mixed ?_
  refine AW.ret ?_
  obtain rfl := Option.some.inj h
  refine nz ?_
  exact .same _
def grp_r08_well (K : Nat) : Nat → ((NodeA × Int × Bool × Bool) → Option Bool) × ((NodeA × Bool × Bool) → Option Bool)
  | 0 => (fun _ => none, fun _ => none)
  | k + 1 => (fun q => r08_well_body K (grp_r08_well K k).1 (grp_r08_well K k).2 q.1 q.2.1 q.2.2.1 q.2.2.2, fun q => r08_flow_body K (grp_r08_well K k).1 (grp_r08_well K k).2 q.1 q.2.1 q.2.2)
def r08_well (K : Nat) (p0 : NodeA) (p1 : Int) (p2 : Bool) (p3 : Bool) : Option Bool := (grp_r08_well K K).1 (p0, p1, p2, p3)
def r08_flow (K : Nat) (p0 : NodeA) (p1 : Bool) (p2 : Bool) : Option Bool := (grp_r08_well K K).2 (p0, p1, p2)
theorem key_r08_well {K : Nat} (k : Nat) : (∀ (q : NodeA × Int × Bool × Bool) (r : Bool), (grp_r08_well K k).1 q = some r → Cn Try.prog 42 [aggV q.1.enc, .d (.val (.int .i64 q.2.1)), .d (.val (.bool q.2.2.1)), .d (.val (.bool q.2.2.2))] (.d (.val (.bool r)))) ∧ (∀ (q : NodeA × Bool × Bool) (r : Bool), (grp_r08_well K k).2 q = some r → Cn Try.prog 60 [aggV q.1.enc, .d (.val (.bool q.2.1)), .d (.val (.bool q.2.2))] (.d (.val (.bool r)))) := by
  induction k with
  | zero => exact ⟨(fun q r h => nomatch (show (none : Option _) = some r from h)), (fun q r h => nomatch (show (none : Option _) = some r from h))⟩
  | succ k ih => exact ⟨fun q r h => r08_well_step K _ _ ih.1 ih.2 q.1 q.2.1 q.2.2.1 q.2.2.2 r h, fun q r h => r08_flow_step K _ _ ih.1 ih.2 q.1 q.2.1 q.2.2 r h⟩
theorem r08_well_ok {K : Nat} {p0 : NodeA} {p1 : Int} {p2 : Bool} {p3 : Bool} {r : Bool} (h : r08_well K p0 p1 p2 p3 = some r) : Cn Try.prog 42 [aggV p0.enc, .d (.val (.int .i64 p1)), .d (.val (.bool p2)), .d (.val (.bool p3))] (.d (.val (.bool r))) := (key_r08_well K).1 (p0, p1, p2, p3) r h
theorem r08_flow_ok {K : Nat} {p0 : NodeA} {p1 : Bool} {p2 : Bool} {r : Bool} (h : r08_flow K p0 p1 p2 = some r) : Cn Try.prog 60 [aggV p0.enc, .d (.val (.bool p1)), .d (.val (.bool p2))] (.d (.val (.bool r))) := (key_r08_well K).2 (p0, p1, p2) r h

end Go.Proofs.Ytcgphoghmgeecaa
namespace Go.Proofs.Ytcgphoghmgeecaa
open Go Go.Iso Go.Proofs
set_option linter.unusedSimpArgs false
set_option linter.unusedVariables false
set_option maxRecDepth 100000

/-! ### isochrone/isochroneref08.Check -/
def r08_Check (K : Nat) (p0 : NodeA) (p1 : Int) : Option Int := ((
    if (decide (p1 < (1 : Int))) then
      some true
    else
      some (decide ((3 : Int) < p1))) : Option Bool).bind (fun v1_0 => 
  if v1_0 then
    some (1 : Int)
  else
    ((
      (r08_Size K p0).bind fun r7 => 
      if (decide ((4000 : Int) < r7)) then
        some true
      else
        (r08_Levels K p0).bind fun r10 => 
        some (decide ((60 : Int) < r10))) : Option Bool).bind (fun v5_0 => 
    if v5_0 then
      some (2 : Int)
    else
      (r08_Sort K p0.op).bind fun r13 => 
      if (r13 != p1) then
        some (80 : Int)
      else
        (r08_well K p0 p1 false false).bind fun r16 => 
        if (!r16) then
          some (3 : Int)
        else
          some (0 : Int)))
set_option maxHeartbeats 4000000 in
theorem r08_Check_ok {K : Nat} {p0 : NodeA} {p1 : Int} {r : Int} (h : r08_Check K p0 p1 = some r) : Cn Try.prog 22 [aggV p0.enc, .d (.val (.int .i64 p1))] (.d (.val (.int .i64 r))) := by
  refine Cn.ofA mixed Try.func22 rfl Try.call22 Try.ntmps22 Try.results22 (by simp) (by simp only [go_sem, Nat.reduceEqDiff, Nat.reduceAdd, Nat.reduceSub, Nat.reduceMul, Nat.reduceLeDiff, Nat.reduceLT, Nat.reduceBEq, reduceIte]) fun hfit => ?_
  unfold r08_Check at h
  refine AW.kp [] [0, 1] ?_
  refine AW.op mixed ?_
  refine AW.kp [0] [1, 2] ?_
  refine AW.one ?_
  refine AW.block ?_
  refine AW.one ?_
  refine obindE h fun oJ2 h hJ2 => ?_
  refine AW.join (S := Bool) (fun v1_0 => [(1, .d (.val (.int .i64 p1))), (2, .ptr 0 6 0 0), (5, .d (.val (.bool v1_0)))]) (fun v1_0 => [some ⟨6, [[.d (.val (.int .i64 p0.op)), .d (.val (.string p0.name)), .d (.val (.bool p0.num.neg)), .d (slD u32V p0.num.num), .d (slD u32V p0.num.den), .d (slD NodeA.enc p0.kids)]]⟩]) (fun x => x = oJ2) ?_ ?_
  · skip
    refine AW.rg mixed ?_
    refine splitK_intro (fun hb3 => ?_) (fun hb3 => ?_)
    · have h := ifT hb3 h
      try simp only [go_sem, Nat.reduceEqDiff, Nat.reduceAdd, Nat.reduceSub, Nat.reduceMul, Nat.reduceLeDiff, Nat.reduceLT, Nat.reduceBEq, reduceIte, hb3]
      refine JoinQ.mk true [0] (Option.some.inj h) (by simp only [go_sem, Nat.reduceEqDiff, Nat.reduceAdd, Nat.reduceSub, Nat.reduceMul, Nat.reduceLeDiff, Nat.reduceLT, Nat.reduceBEq, reduceIte, hb3])
    have h := ifF hb3 h
    try simp only [go_sem, Nat.reduceEqDiff, Nat.reduceAdd, Nat.reduceSub, Nat.reduceMul, Nat.reduceLeDiff, Nat.reduceLT, Nat.reduceBEq, reduceIte, hb3]
    refine JoinQ.mk (decide ((3 : Int) < p1)) [0] (Option.some.inj h) (by simp only [go_sem, Nat.reduceEqDiff, Nat.reduceAdd, Nat.reduceSub, Nat.reduceMul, Nat.reduceLeDiff, Nat.reduceLT, Nat.reduceBEq, reduceIte, hb3])
  rintro v1_0 rfl
  have h := hJ2
  try dsimp only [Out.fin] at h
  refine nz ?_
  refine AW.ts v1_0 (fun hb4 => ?_) (fun hb4 => ?_)
  · have h := ifT hb4 h
    refine AW.op mixed ?_
    refine AW.ret ?_
    obtain rfl := Option.some.inj h
    refine nz ?_
    exact .same _
  have h := ifF hb4 h
  refine AW.one ?_
  refine obindE h fun oJ6 h hJ6 => ?_
  refine AW.join (S := Bool) (fun v5_0 => [(1, .d (.val (.int .i64 p1))), (2, .ptr 0 6 0 0), (12, .d (.val (.bool v5_0)))]) (fun v5_0 => [some ⟨6, [[.d (.val (.int .i64 p0.op)), .d (.val (.string p0.name)), .d (.val (.bool p0.num.neg)), .d (slD u32V p0.num.num), .d (slD u32V p0.num.den), .d (slD NodeA.enc p0.kids)]]⟩]) (fun x => x = oJ6) ?_ ?_
  · skip
    refine AW.rg mixed ?_
    apply obindE h; intro r7 hx8 h
    have hc := nx (r08_Size_ok (h := hx8))
    refine callP hc ?_
    refine splitK_intro (fun hb9 => ?_) (fun hb9 => ?_)
    · have h := ifT hb9 h
      try simp only [go_sem, Nat.reduceEqDiff, Nat.reduceAdd, Nat.reduceSub, Nat.reduceMul, Nat.reduceLeDiff, Nat.reduceLT, Nat.reduceBEq, reduceIte, hb9]
      refine JoinQ.mk true [0] (Option.some.inj h) (by simp only [go_sem, Nat.reduceEqDiff, Nat.reduceAdd, Nat.reduceSub, Nat.reduceMul, Nat.reduceLeDiff, Nat.reduceLT, Nat.reduceBEq, reduceIte, hb9])
    have h := ifF hb9 h
    try simp only [go_sem, Nat.reduceEqDiff, Nat.reduceAdd, Nat.reduceSub, Nat.reduceMul, Nat.reduceLeDiff, Nat.reduceLT, Nat.reduceBEq, reduceIte, hb9]
    apply obindE h; intro r10 hx11 h
    have hc := nx (r08_Levels_ok (h := hx11))
    refine callK_pure hc (by simp only [go_sem, Nat.reduceEqDiff, Nat.reduceAdd, Nat.reduceSub, Nat.reduceMul, Nat.reduceLeDiff, Nat.reduceLT, Nat.reduceBEq, reduceIte]) ?_
    try simp only [go_sem, Nat.reduceEqDiff, Nat.reduceAdd, Nat.reduceSub, Nat.reduceMul, Nat.reduceLeDiff, Nat.reduceLT, Nat.reduceBEq, reduceIte, hb9]
    refine JoinQ.mk (decide ((60 : Int) < r10)) [0] (Option.some.inj h) (by simp only [go_sem, Nat.reduceEqDiff, Nat.reduceAdd, Nat.reduceSub, Nat.reduceMul, Nat.reduceLeDiff, Nat.reduceLT, Nat.reduceBEq, reduceIte, hb9])
  rintro v5_0 rfl
  have h := hJ6
  try dsimp only [Out.fin] at h
  refine nz ?_
  refine AW.ts v5_0 (fun hb12 => ?_) (fun hb12 => ?_)
  · have h := ifT hb12 h
    refine AW.op mixed ?_
    refine AW.ret ?_
    obtain rfl := Option.some.inj h
    refine nz ?_
    exact .same _
  have h := ifF hb12 h
  refine AW.op mixed ?_
  apply obindE h; intro r13 hx14 h
  have hc := nx (r08_Sort_ok (h := hx14))
  refine callP hc ?_
  refine AW.kp [0] [1, 2, 21] ?_
  refine AW.ts (r13 != p1) (fun hb15 => ?_) (fun hb15 => ?_)
  · have h := ifT hb15 h
    refine AW.op mixed ?_
    refine AW.ret ?_
    obtain rfl := Option.some.inj h
    refine nz ?_
    exact .same _
  have h := ifF hb15 h
  refine AW.op mixed ?_
  apply obindE h; intro r16 hx17 h
  have hc := nx (r08_well_ok (h := hx17))
  refine callP hc ?_
  refine AW.kp [] [27] ?_
  refine AW.ts (!r16) (fun hb18 => ?_) (fun hb18 => ?_)
  · have h := ifT hb18 h
    refine AW.op mixed ?_
    refine AW.ret ?_
    obtain rfl := Option.some.inj h
    refine nz ?_
    exact .same _
  have h := ifF hb18 h
  refine AW.sk ?_
  refine AW.kp [] [] ?_
  refine AW.op mixed ?_
  refine AW.ret ?_
  obtain rfl := Option.some.inj h
  refine nz ?_
  exact .same _

end Go.Proofs.Ytcgphoghmgeecaa
namespace Go.Proofs.Ytcgphoghmgeecaa
open Go Go.Iso Go.Proofs
set_option linter.unusedSimpArgs false
set_option linter.unusedVariables false
set_option maxRecDepth 100000

/-! ### isochrone/isochroneref10.Empty -/
def r10_Empty (K : Nat) (p0 : Api_NamesA) : Option Bool := if (!p0.all) then
    some ((p0.list.length : Int) == (0 : Int))
  else
    some false
set_option maxHeartbeats 4000000 in
theorem r10_Empty_ok {K : Nat} {p0 : Api_NamesA} {r : Bool} (h : r10_Empty K p0 = some r) : Cn Try.prog 25 [aggV p0.enc] (.d (.val (.bool r))) := by
  refine Cn.ofA mixed Try.func25 rfl Try.call25 Try.ntmps25 Try.results25 (by simp) (by simp only [go_sem, Nat.reduceEqDiff, Nat.reduceAdd, Nat.reduceSub, Nat.reduceMul, Nat.reduceLeDiff, Nat.reduceLT, Nat.reduceBEq, reduceIte]) fun hfit => ?_
  unfold r10_Empty at h
  refine AW.kp [] [0] ?_
  refine AW.op mixed ?_
  refine AW.kp [0] [1] ?_
  refine AW.op mixed ?_
  refine splitK_intro (fun hb1 => ?_) (fun hb1 => ?_)
  · have h := ifT hb1 h
    try simp only [go_sem, Nat.reduceEqDiff, Nat.reduceAdd, Nat.reduceSub, Nat.reduceMul, Nat.reduceLeDiff, Nat.reduceLT, Nat.reduceBEq, reduceIte, hb1]
    refine AW.ret ?_
    obtain rfl := Option.some.inj h
    refine nz ?_
    exact .same _
  have h := ifF hb1 h
  try simp only [go_sem, Nat.reduceEqDiff, Nat.reduceAdd, Nat.reduceSub, Nat.reduceMul, Nat.reduceLeDiff, Nat.reduceLT, Nat.reduceBEq, reduceIte, hb1]
  refine AW.ret ?_
  obtain rfl := Option.some.inj h
  refine nz ?_
  exact .same _

end Go.Proofs.Ytcgphoghmgeecaa
namespace Go.Proofs.Ytcgphoghmgeecaa
open Go Go.Iso Go.Proofs
set_option linter.unusedSimpArgs false
set_option linter.unusedVariables false
set_option maxRecDepth 100000

/-! ### isochrone/isochroneref10.Same -/
def r10_Same (K : Nat) (p0 : Api_NamesA) (p1 : Api_NamesA) : Option Bool := ((
    ((
      if (!(p0.all == p1.all)) then
        some true
      else
        some ((p0.list.length : Int) != (p1.list.length : Int))) : Option Bool).bind (fun v3_0 => 
    if v3_0 then
      outM (
        some false)
    else
      some (.go ()))) : Option (Out Unit _)).bind (Out.fin fun _ => 
  ((iter (S := Int) (R := Out Unit _) K (fun again i7_0 => 
    if (decide (i7_0 < (p0.list.length : Int))) then
      (idx p0.list i7_0).bind fun x12 => 
      (idx p1.list i7_0).bind fun x14 => 
      if (!(x12.toList == x14.toList)) then
        outM (
          some false)
      else
        again (IntKind.wrap .i64 (i7_0 + (1 : Int)))
    else
      some (.go ())) (0 : Int)) : Option (Out Unit _)).bind (Out.fin fun _ => 
  some true))
set_option maxHeartbeats 4000000 in
theorem r10_Same_ok {K : Nat} {p0 : Api_NamesA} {p1 : Api_NamesA} {r : Bool} (h : r10_Same K p0 p1 = some r) : Cn Try.prog 14 [aggV p0.enc, aggV p1.enc] (.d (.val (.bool r))) := by
  refine Cn.ofA mixed Try.func14 rfl Try.call14 Try.ntmps14 Try.results14 (by simp) (by simp only [go_sem, Nat.reduceEqDiff, Nat.reduceAdd, Nat.reduceSub, Nat.reduceMul, Nat.reduceLeDiff, Nat.reduceLT, Nat.reduceBEq, reduceIte]) fun hfit => ?_
  unfold r10_Same at h
  refine AW.kp [] [0, 1] ?_
  refine AW.op mixed ?_
  refine AW.kp [0, 1] [2, 3] ?_
  refine AW.one ?_
  refine obindE h fun oJ2 h hJ2 => ?_
  refine AW.join (S := Unit) (fun _ => [(2, .ptr 0 2 0 0), (3, .ptr 1 2 0 0)]) (fun _ => [some ⟨2, [[.d (.val (.bool p0.all)), .d (slD strV p0.list)]]⟩, some ⟨2, [[.d (.val (.bool p1.all)), .d (slD strV p1.list)]]⟩]) (fun x => oJ2 = .go x) ?_ ?_
  · skip
    refine AW.one ?_
    refine obindE h fun oJ4 h hJ4 => ?_
    refine AW.join (S := Bool) (fun v3_0 => [(2, .ptr 0 2 0 0), (3, .ptr 1 2 0 0), (19, .d (.val (.bool v3_0)))]) (fun v3_0 => [some ⟨2, [[.d (.val (.bool p0.all)), .d (slD strV p0.list)]]⟩, some ⟨2, [[.d (.val (.bool p1.all)), .d (slD strV p1.list)]]⟩]) (fun x => x = oJ4) ?_ ?_
    · skip
      refine AW.rg mixed ?_
      refine splitK_intro (fun hb5 => ?_) (fun hb5 => ?_)
      · have h := ifT hb5 h
        try simp only [go_sem, Nat.reduceEqDiff, Nat.reduceAdd, Nat.reduceSub, Nat.reduceMul, Nat.reduceLeDiff, Nat.reduceLT, Nat.reduceBEq, reduceIte, hb5]
        refine JoinQ.mk true [0, 1] (Option.some.inj h) (by simp only [go_sem, Nat.reduceEqDiff, Nat.reduceAdd, Nat.reduceSub, Nat.reduceMul, Nat.reduceLeDiff, Nat.reduceLT, Nat.reduceBEq, reduceIte, hb5])
      have h := ifF hb5 h
      try simp only [go_sem, Nat.reduceEqDiff, Nat.reduceAdd, Nat.reduceSub, Nat.reduceMul, Nat.reduceLeDiff, Nat.reduceLT, Nat.reduceBEq, reduceIte, hb5]
      refine JoinQ.mk ((p0.list.length : Int) != (p1.list.length : Int)) [0, 1] (Option.some.inj h) (by simp only [go_sem, Nat.reduceEqDiff, Nat.reduceAdd, Nat.reduceSub, Nat.reduceMul, Nat.reduceLeDiff, Nat.reduceLT, Nat.reduceBEq, reduceIte, hb5])
    rintro v3_0 rfl
    have h := hJ4
    try dsimp only [Out.fin] at h
    refine nz ?_
    refine AW.ts v3_0 (fun hb6 => ?_) (fun hb6 => ?_)
    · have h := ifT hb6 h
      refine AW.op mixed ?_
      refine AW.ret ?_
      obtain ⟨_, h, ho⟩ := outM_some h
      rw [ho, Out.fin_out] at hJ2
      have h := h.trans hJ2
      obtain rfl := Option.some.inj h
      refine nz ?_
      exact .same _
    have h := ifF hb6 h
    refine AW.sk ?_
    exact JoinQ.ar () [0, 1] (Option.some.inj h).symm
  rintro ⟨⟩ rfl
  have h := hJ2
  try dsimp only [Out.fin] at h
  refine nz ?_
  refine AW.one ?_
  refine AW.op mixed ?_
  refine AW.kp [0, 1] [2, 3, 5] ?_
  refine obindE h fun oJ10 h hJ10 => ?_
  refine AW.join (S := Unit) (fun _ => []) (fun _ => []) (fun x => oJ10 = .go x) ?_ ?_
  · refine AW.block ?_
    refine AW.iter (S := Int) (fun i7_0 => [(2, .ptr 0 2 0 0), (3, .ptr 1 2 0 0), (5, .d (.val (.int .i64 i7_0)))]) (fun i7_0 => [some ⟨2, [[.d (.val (.bool p0.all)), .d (slD strV p0.list)]]⟩, some ⟨2, [[.d (.val (.bool p1.all)), .d (slD strV p1.list)]]⟩]) [0, 1] h (by simp only [go_sem, Nat.reduceEqDiff, Nat.reduceAdd, Nat.reduceSub, Nat.reduceMul, Nat.reduceLeDiff, Nat.reduceLT, Nat.reduceBEq, reduceIte]) ?_
    rintro again i7_0 h
    try dsimp only at h
    refine AW.one ?_
    refine AW.op mixed ?_
    refine AW.kp [0, 1] [2, 3, 5, 24] ?_
    refine AW.ts (decide (i7_0 < (p0.list.length : Int))) (fun hb11 => ?_) (fun hb11 => ?_)
    · have h := ifT hb11 h
      refine AW.sk ?_
      refine AW.kp [0, 1] [2, 3, 5] ?_
      refine AW.one ?_
      refine AW.block ?_
      refine AW.one ?_
      refine AW.reg mixed (by kernel_rfl) ?_
      apply obindE h; intro x12 hx13 h
      apply obindE h; intro x14 hx15 h
      try simp only [go_sem, Nat.reduceEqDiff, Nat.reduceAdd, Nat.reduceSub, Nat.reduceMul, Nat.reduceLeDiff, Nat.reduceLT, Nat.reduceBEq, reduceIte, (idx_some hx13).1, (idx_some hx13).2, (idx_some hx15).1, (idx_some hx15).2]
      refine AW.cut [0, 1] [(2, .ptr 0 2 0 0), (3, .ptr 1 2 0 0), (5, .d (.val (.int .i64 i7_0))), (37, .d (.val (.bool (!(x12.toList == x14.toList)))))] [some ⟨2, [[.d (.val (.bool p0.all)), .d (slD strV p0.list)]]⟩, some ⟨2, [[.d (.val (.bool p1.all)), .d (slD strV p1.list)]]⟩] (by simp only [go_sem, Nat.reduceEqDiff, Nat.reduceAdd, Nat.reduceSub, Nat.reduceMul, Nat.reduceLeDiff, Nat.reduceLT, Nat.reduceBEq, reduceIte, (idx_some hx13).1, (idx_some hx13).2, (idx_some hx15).1, (idx_some hx15).2]) ?_
      refine AW.ts (!(x12.toList == x14.toList)) (fun hb16 => ?_) (fun hb16 => ?_)
      · have h := ifT hb16 h
        refine AW.op mixed ?_
        refine AW.ret ?_
        obtain ⟨_, h, ho⟩ := outM_some h
        rw [ho, Out.fin_out] at hJ10
        have h := h.trans hJ10
        obtain rfl := Option.some.inj h
        refine nz ?_
        exact .same _
      have h := ifF hb16 h
      refine AW.sk ?_
      refine AW.kp [0, 1] [2, 3, 5] ?_
      refine AW.rg mixed ?_
      exact NextQ.ar (IntKind.wrap .i64 (i7_0 + (1 : Int))) [0, 1] h
    have h := ifF hb11 h
    refine AW.ex ?_
    exact JoinQ.ar () [] (Option.some.inj h).symm
  rintro ⟨⟩ rfl
  have h := hJ10
  try dsimp only [Out.fin] at h
  refine nz ?_
  refine AW.kp [] [] ?_
  refine AW.op mixed ?_
  refine AW.ret ?_
  obtain rfl := Option.some.inj h
  refine nz ?_
  exact .same _

end Go.Proofs.Ytcgphoghmgeecaa
namespace Go.Proofs.Ytcgphoghmgeecaa
open Go Go.Iso Go.Proofs
set_option linter.unusedSimpArgs false
set_option linter.unusedVariables false
set_option maxRecDepth 100000

/-! ### isochrone/static.two -/
def static_two_static_minus (K : Nat) (p0 : Api_NamesA) (p1 : Api_NamesA) : Option (Api_NamesA × Int) := ((
    ((
      (static_Valid K p0).bind fun r5 => 
      if (!r5) then
        some true
      else
        (static_Valid K p1).bind fun r8 => 
        some (!r8)) : Option Bool).bind (fun v3_0 => 
    if v3_0 then
      outM (
        some ((Api_NamesA.mk false []), (3 : Int)))
    else
      some (.go ()))) : Option (Out Unit _)).bind (Out.fin fun _ => 
  (static_minus K p0 p1).bind fun r11 => 
  (appO 16 [] r11.list).bind fun l13 => 
  some ((Api_NamesA.mk r11.all l13), (0 : Int)))
set_option maxHeartbeats 4000000 in
theorem static_two_static_minus_ok {K : Nat} {p0 : Api_NamesA} {p1 : Api_NamesA} {r : Api_NamesA × Int} (h : static_two_static_minus K p0 p1 = some r) : Cn Try.prog 33 [aggV p0.enc, aggV p1.enc, .fn 38 []] (.tup [aggV r.1.enc, .d (.val (.int .i64 r.2))]) := by
  refine Cn.ofA mixed Try.func33 rfl Try.call33 Try.ntmps33 Try.results33 (by simp) (by simp only [go_sem, Nat.reduceEqDiff, Nat.reduceAdd, Nat.reduceSub, Nat.reduceMul, Nat.reduceLeDiff, Nat.reduceLT, Nat.reduceBEq, reduceIte]) fun hfit => ?_
  unfold static_two_static_minus at h
  refine AW.kp [] [0, 1, 2] ?_
  refine AW.op mixed ?_
  refine AW.kp [0, 1, 2] [2, 3, 4, 6] ?_
  refine AW.one ?_
  refine obindE h fun oJ2 h hJ2 => ?_
  refine AW.join (S := Unit) (fun _ => [(2, .fn 38 []), (3, .ptr 0 2 0 0), (4, .ptr 1 2 0 0), (6, .ptr 2 2 0 0)]) (fun _ => [some ⟨2, [[.d (.val (.bool p0.all)), .d (slD strV p0.list)]]⟩, some ⟨2, [[.d (.val (.bool p1.all)), .d (slD strV p1.list)]]⟩, some ⟨2, [[.d (.val (.bool false)), .d (.val (.slice none 0 0))]]⟩]) (fun x => oJ2 = .go x) ?_ ?_
  · skip
    refine AW.one ?_
    refine obindE h fun oJ4 h hJ4 => ?_
    refine AW.join (S := Bool) (fun v3_0 => [(2, .fn 38 []), (3, .ptr 0 2 0 0), (4, .ptr 1 2 0 0), (6, .ptr 2 2 0 0), (16, .d (.val (.bool v3_0)))]) (fun v3_0 => [some ⟨2, [[.d (.val (.bool p0.all)), .d (slD strV p0.list)]]⟩, some ⟨2, [[.d (.val (.bool p1.all)), .d (slD strV p1.list)]]⟩, some ⟨2, [[.d (.val (.bool false)), .d (.val (.slice none 0 0))]]⟩]) (fun x => x = oJ4) ?_ ?_
    · skip
      refine AW.rg mixed ?_
      apply obindE h; intro r5 hx6 h
      have hc := nx (static_Valid_ok (h := hx6))
      refine callP hc ?_
      refine splitK_intro (fun hb7 => ?_) (fun hb7 => ?_)
      · have h := ifT hb7 h
        try simp only [go_sem, Nat.reduceEqDiff, Nat.reduceAdd, Nat.reduceSub, Nat.reduceMul, Nat.reduceLeDiff, Nat.reduceLT, Nat.reduceBEq, reduceIte, hb7]
        refine JoinQ.mk true [0, 1, 2] (Option.some.inj h) (by simp only [go_sem, Nat.reduceEqDiff, Nat.reduceAdd, Nat.reduceSub, Nat.reduceMul, Nat.reduceLeDiff, Nat.reduceLT, Nat.reduceBEq, reduceIte, hb7])
      have h := ifF hb7 h
      try simp only [go_sem, Nat.reduceEqDiff, Nat.reduceAdd, Nat.reduceSub, Nat.reduceMul, Nat.reduceLeDiff, Nat.reduceLT, Nat.reduceBEq, reduceIte, hb7]
      apply obindE h; intro r8 hx9 h
      have hc := nx (static_Valid_ok (h := hx9))
      refine callK_pure hc (by simp only [go_sem, Nat.reduceEqDiff, Nat.reduceAdd, Nat.reduceSub, Nat.reduceMul, Nat.reduceLeDiff, Nat.reduceLT, Nat.reduceBEq, reduceIte]) ?_
      try simp only [go_sem, Nat.reduceEqDiff, Nat.reduceAdd, Nat.reduceSub, Nat.reduceMul, Nat.reduceLeDiff, Nat.reduceLT, Nat.reduceBEq, reduceIte, hb7]
      refine JoinQ.mk (!r8) [0, 1, 2] (Option.some.inj h) (by simp only [go_sem, Nat.reduceEqDiff, Nat.reduceAdd, Nat.reduceSub, Nat.reduceMul, Nat.reduceLeDiff, Nat.reduceLT, Nat.reduceBEq, reduceIte, hb7])
    rintro v3_0 rfl
    have h := hJ4
    try dsimp only [Out.fin] at h
    refine nz ?_
    refine AW.ts v3_0 (fun hb10 => ?_) (fun hb10 => ?_)
    · have h := ifT hb10 h
      refine AW.op mixed ?_
      refine AW.ret ?_
      obtain ⟨_, h, ho⟩ := outM_some h
      rw [ho, Out.fin_out] at hJ2
      have h := h.trans hJ2
      obtain rfl := Option.some.inj h
      refine nz ?_
      exact .tupL ⟨.aggL ⟨.same _, .nil, trivial⟩, .same _, trivial⟩
    have h := ifF hb10 h
    refine AW.sk ?_
    exact JoinQ.ar () [0, 1, 2] (Option.some.inj h).symm
  rintro ⟨⟩ rfl
  have h := hJ2
  try dsimp only [Out.fin] at h
  refine nz ?_
  refine AW.op mixed ?_
  apply obindE h; intro r11 hx12 h
  have hc := nx (static_minus_ok (h := hx12))
  refine callP hc ?_
  refine AW.kp [2, 7] [6, 8] ?_
  refine AW.op mixed ?_
  apply obindE h; intro l13 hx14 h
  refine appD hx14 rfl (by simp only [go_sem, Nat.reduceEqDiff, Nat.reduceAdd, Nat.reduceSub, Nat.reduceMul, Nat.reduceLeDiff, Nat.reduceLT, Nat.reduceBEq, reduceIte]) ?_
  try simp only [go_sem, Nat.reduceEqDiff, Nat.reduceAdd, Nat.reduceSub, Nat.reduceMul, Nat.reduceLeDiff, Nat.reduceLT, Nat.reduceBEq, reduceIte]
  refine AW.kp [0, 1] [6, 8] ?_
  refine AW.op mixed ?_
  refine AW.ret ?_
  obtain rfl := Option.some.inj h
  refine nz ?_
  exact .same _

end Go.Proofs.Ytcgphoghmgeecaa
namespace Go.Proofs.Ytcgphoghmgeecaa
open Go Go.Iso Go.Proofs
set_option linter.unusedSimpArgs false
set_option linter.unusedVariables false
set_option maxRecDepth 100000

/-! ### isochrone/static.Minus -/
def static_Minus (K : Nat) (p0 : Api_NamesA) (p1 : Api_NamesA) : Option (Api_NamesA × Int) := (static_two_static_minus K p0 p1).bind fun r1 => 
  some (r1.1, r1.2)
set_option maxHeartbeats 4000000 in
theorem static_Minus_ok {K : Nat} {p0 : Api_NamesA} {p1 : Api_NamesA} {r : Api_NamesA × Int} (h : static_Minus K p0 p1 = some r) : Cn Try.prog 17 [aggV p0.enc, aggV p1.enc] (.tup [aggV r.1.enc, .d (.val (.int .i64 r.2))]) := by
  refine Cn.ofA mixed Try.func17 rfl Try.call17 Try.ntmps17 Try.results17 (by simp) (by simp only [go_sem, Nat.reduceEqDiff, Nat.reduceAdd, Nat.reduceSub, Nat.reduceMul, Nat.reduceLeDiff, Nat.reduceLT, Nat.reduceBEq, reduceIte]) fun hfit => ?_
  unfold static_Minus at h
  refine AW.kp [] [0, 1] ?_
  refine AW.op mixed ?_
  refine AW.kp [0, 1, 2] [2, 3, 4] ?_
  refine AW.op mixed ?_
  apply obindE h; intro r1 hx2 h
  have hc := nx (static_two_static_minus_ok (h := hx2))
  refine callP hc ?_
  refine AW.ret ?_
  obtain rfl := Option.some.inj h
  refine nz ?_
  exact .same _

end Go.Proofs.Ytcgphoghmgeecaa
namespace Go.Proofs.Ytcgphoghmgeecaa
open Go Go.Iso Go.Proofs
set_option linter.unusedSimpArgs false
set_option linter.unusedVariables false
set_option maxRecDepth 100000

/-! ### isochrone/static.Must -/
def static_Must (K : Nat) (p0 : NodeA) : Option (Api_NamesA × Int) := (static_check K p0).bind fun r1 => 
  if (r1 != (0 : Int)) then
    some ((Api_NamesA.mk false []), r1)
  else
    (tree_Sort K p0.op).bind fun r4 => 
    if (r4 != (3 : Int)) then
      some ((Api_NamesA.mk false []), (80 : Int))
    else
      (static_MustOf K p0).bind fun r7 => 
      some (r7, (0 : Int))
set_option maxHeartbeats 4000000 in
theorem static_Must_ok {K : Nat} {p0 : NodeA} {r : Api_NamesA × Int} (h : static_Must K p0 = some r) : Cn Try.prog 23 [aggV p0.enc] (.tup [aggV r.1.enc, .d (.val (.int .i64 r.2))]) := by
  refine Cn.ofA mixed Try.func23 rfl Try.call23 Try.ntmps23 Try.results23 (by simp) (by simp only [go_sem, Nat.reduceEqDiff, Nat.reduceAdd, Nat.reduceSub, Nat.reduceMul, Nat.reduceLeDiff, Nat.reduceLT, Nat.reduceBEq, reduceIte]) fun hfit => ?_
  unfold static_Must at h
  refine AW.kp [] [0] ?_
  refine AW.op mixed ?_
  refine AW.kp [0, 1] [1, 2] ?_
  refine AW.one ?_
  refine AW.op mixed ?_
  apply obindE h; intro r1 hx2 h
  have hc := nx (static_check_ok (h := hx2))
  refine callP hc ?_
  refine AW.kp [0, 1] [1, 2, 4] ?_
  refine AW.op mixed ?_
  refine AW.kp [0, 1] [1, 2, 4, 8] ?_
  refine AW.ts (r1 != (0 : Int)) (fun hb3 => ?_) (fun hb3 => ?_)
  · have h := ifT hb3 h
    refine AW.op mixed ?_
    refine AW.ret ?_
    obtain rfl := Option.some.inj h
    refine nz ?_
    exact .tupL ⟨.aggL ⟨.same _, .nil, trivial⟩, .same _, trivial⟩
  have h := ifF hb3 h
  refine AW.sk ?_
  refine AW.kp [0, 1] [1, 2] ?_
  refine AW.one ?_
  refine AW.op mixed ?_
  apply obindE h; intro r4 hx5 h
  have hc := nx (tree_Sort_ok (h := hx5))
  refine callP hc ?_
  refine AW.kp [0, 1] [1, 2, 14] ?_
  refine AW.ts (r4 != (3 : Int)) (fun hb6 => ?_) (fun hb6 => ?_)
  · have h := ifT hb6 h
    refine AW.op mixed ?_
    refine AW.ret ?_
    obtain rfl := Option.some.inj h
    refine nz ?_
    exact .tupL ⟨.aggL ⟨.same _, .nil, trivial⟩, .same _, trivial⟩
  have h := ifF hb6 h
  refine AW.sk ?_
  refine AW.kp [0, 1] [1, 2] ?_
  refine AW.op mixed ?_
  apply obindE h; intro r7 hx8 h
  have hc := nx (static_MustOf_ok (h := hx8))
  refine callP hc ?_
  refine AW.ret ?_
  obtain rfl := Option.some.inj h
  refine nz ?_
  exact .same _

end Go.Proofs.Ytcgphoghmgeecaa
namespace Go.Proofs.Ytcgphoghmgeecaa
open Go Go.Iso Go.Proofs
set_option linter.unusedSimpArgs false
set_option linter.unusedVariables false
set_option maxRecDepth 100000

/-! ### isochrone/static.two -/
def static_two_static_union (K : Nat) (p0 : Api_NamesA) (p1 : Api_NamesA) : Option (Api_NamesA × Int) := ((
    ((
      (static_Valid K p0).bind fun r5 => 
      if (!r5) then
        some true
      else
        (static_Valid K p1).bind fun r8 => 
        some (!r8)) : Option Bool).bind (fun v3_0 => 
    if v3_0 then
      outM (
        some ((Api_NamesA.mk false []), (3 : Int)))
    else
      some (.go ()))) : Option (Out Unit _)).bind (Out.fin fun _ => 
  (static_union K p0 p1).bind fun r11 => 
  (appO 16 [] r11.list).bind fun l13 => 
  some ((Api_NamesA.mk r11.all l13), (0 : Int)))
set_option maxHeartbeats 4000000 in
theorem static_two_static_union_ok {K : Nat} {p0 : Api_NamesA} {p1 : Api_NamesA} {r : Api_NamesA × Int} (h : static_two_static_union K p0 p1 = some r) : Cn Try.prog 33 [aggV p0.enc, aggV p1.enc, .fn 34 []] (.tup [aggV r.1.enc, .d (.val (.int .i64 r.2))]) := by
  refine Cn.ofA mixed Try.func33 rfl Try.call33 Try.ntmps33 Try.results33 (by simp) (by simp only [go_sem, Nat.reduceEqDiff, Nat.reduceAdd, Nat.reduceSub, Nat.reduceMul, Nat.reduceLeDiff, Nat.reduceLT, Nat.reduceBEq, reduceIte]) fun hfit => ?_
  unfold static_two_static_union at h
  refine AW.kp [] [0, 1, 2] ?_
  refine AW.op mixed ?_
  refine AW.kp [0, 1, 2] [2, 3, 4, 6] ?_
  refine AW.one ?_
  refine obindE h fun oJ2 h hJ2 => ?_
  refine AW.join (S := Unit) (fun _ => [(2, .fn 34 []), (3, .ptr 0 2 0 0), (4, .ptr 1 2 0 0), (6, .ptr 2 2 0 0)]) (fun _ => [some ⟨2, [[.d (.val (.bool p0.all)), .d (slD strV p0.list)]]⟩, some ⟨2, [[.d (.val (.bool p1.all)), .d (slD strV p1.list)]]⟩, some ⟨2, [[.d (.val (.bool false)), .d (.val (.slice none 0 0))]]⟩]) (fun x => oJ2 = .go x) ?_ ?_
  · skip
    refine AW.one ?_
    refine obindE h fun oJ4 h hJ4 => ?_
    refine AW.join (S := Bool) (fun v3_0 => [(2, .fn 34 []), (3, .ptr 0 2 0 0), (4, .ptr 1 2 0 0), (6, .ptr 2 2 0 0), (16, .d (.val (.bool v3_0)))]) (fun v3_0 => [some ⟨2, [[.d (.val (.bool p0.all)), .d (slD strV p0.list)]]⟩, some ⟨2, [[.d (.val (.bool p1.all)), .d (slD strV p1.list)]]⟩, some ⟨2, [[.d (.val (.bool false)), .d (.val (.slice none 0 0))]]⟩]) (fun x => x = oJ4) ?_ ?_
    · skip
      refine AW.rg mixed ?_
      apply obindE h; intro r5 hx6 h
      have hc := nx (static_Valid_ok (h := hx6))
      refine callP hc ?_
      refine splitK_intro (fun hb7 => ?_) (fun hb7 => ?_)
      · have h := ifT hb7 h
        try simp only [go_sem, Nat.reduceEqDiff, Nat.reduceAdd, Nat.reduceSub, Nat.reduceMul, Nat.reduceLeDiff, Nat.reduceLT, Nat.reduceBEq, reduceIte, hb7]
        refine JoinQ.mk true [0, 1, 2] (Option.some.inj h) (by simp only [go_sem, Nat.reduceEqDiff, Nat.reduceAdd, Nat.reduceSub, Nat.reduceMul, Nat.reduceLeDiff, Nat.reduceLT, Nat.reduceBEq, reduceIte, hb7])
      have h := ifF hb7 h
      try simp only [go_sem, Nat.reduceEqDiff, Nat.reduceAdd, Nat.reduceSub, Nat.reduceMul, Nat.reduceLeDiff, Nat.reduceLT, Nat.reduceBEq, reduceIte, hb7]
      apply obindE h; intro r8 hx9 h
      have hc := nx (static_Valid_ok (h := hx9))
      refine callK_pure hc (by simp only [go_sem, Nat.reduceEqDiff, Nat.reduceAdd, Nat.reduceSub, Nat.reduceMul, Nat.reduceLeDiff, Nat.reduceLT, Nat.reduceBEq, reduceIte]) ?_
      try simp only [go_sem, Nat.reduceEqDiff, Nat.reduceAdd, Nat.reduceSub, Nat.reduceMul, Nat.reduceLeDiff, Nat.reduceLT, Nat.reduceBEq, reduceIte, hb7]
      refine JoinQ.mk (!r8) [0, 1, 2] (Option.some.inj h) (by simp only [go_sem, Nat.reduceEqDiff, Nat.reduceAdd, Nat.reduceSub, Nat.reduceMul, Nat.reduceLeDiff, Nat.reduceLT, Nat.reduceBEq, reduceIte, hb7])
    rintro v3_0 rfl
    have h := hJ4
    try dsimp only [Out.fin] at h
    refine nz ?_
    refine AW.ts v3_0 (fun hb10 => ?_) (fun hb10 => ?_)
    · have h := ifT hb10 h
      refine AW.op mixed ?_
      refine AW.ret ?_
      obtain ⟨_, h, ho⟩ := outM_some h
      rw [ho, Out.fin_out] at hJ2
      have h := h.trans hJ2
      obtain rfl := Option.some.inj h
      refine nz ?_
      exact .tupL ⟨.aggL ⟨.same _, .nil, trivial⟩, .same _, trivial⟩
    have h := ifF hb10 h
    refine AW.sk ?_
    exact JoinQ.ar () [0, 1, 2] (Option.some.inj h).symm
  rintro ⟨⟩ rfl
  have h := hJ2
  try dsimp only [Out.fin] at h
  refine nz ?_
  refine AW.op mixed ?_
  apply obindE h; intro r11 hx12 h
  have hc := nx (static_union_ok (h := hx12))
  refine callP hc ?_
  refine AW.kp [2, 7] [6, 8] ?_
  refine AW.op mixed ?_
  apply obindE h; intro l13 hx14 h
  refine appD hx14 rfl (by simp only [go_sem, Nat.reduceEqDiff, Nat.reduceAdd, Nat.reduceSub, Nat.reduceMul, Nat.reduceLeDiff, Nat.reduceLT, Nat.reduceBEq, reduceIte]) ?_
  try simp only [go_sem, Nat.reduceEqDiff, Nat.reduceAdd, Nat.reduceSub, Nat.reduceMul, Nat.reduceLeDiff, Nat.reduceLT, Nat.reduceBEq, reduceIte]
  refine AW.kp [0, 1] [6, 8] ?_
  refine AW.op mixed ?_
  refine AW.ret ?_
  obtain rfl := Option.some.inj h
  refine nz ?_
  exact .same _

end Go.Proofs.Ytcgphoghmgeecaa
namespace Go.Proofs.Ytcgphoghmgeecaa
open Go Go.Iso Go.Proofs
set_option linter.unusedSimpArgs false
set_option linter.unusedVariables false
set_option maxRecDepth 100000

/-! ### isochrone/static.Union -/
def static_Union (K : Nat) (p0 : Api_NamesA) (p1 : Api_NamesA) : Option (Api_NamesA × Int) := (static_two_static_union K p0 p1).bind fun r1 => 
  some (r1.1, r1.2)
set_option maxHeartbeats 4000000 in
theorem static_Union_ok {K : Nat} {p0 : Api_NamesA} {p1 : Api_NamesA} {r : Api_NamesA × Int} (h : static_Union K p0 p1 = some r) : Cn Try.prog 12 [aggV p0.enc, aggV p1.enc] (.tup [aggV r.1.enc, .d (.val (.int .i64 r.2))]) := by
  refine Cn.ofA mixed Try.func12 rfl Try.call12 Try.ntmps12 Try.results12 (by simp) (by simp only [go_sem, Nat.reduceEqDiff, Nat.reduceAdd, Nat.reduceSub, Nat.reduceMul, Nat.reduceLeDiff, Nat.reduceLT, Nat.reduceBEq, reduceIte]) fun hfit => ?_
  unfold static_Union at h
  refine AW.kp [] [0, 1] ?_
  refine AW.op mixed ?_
  refine AW.kp [0, 1, 2] [2, 3, 4] ?_
  refine AW.op mixed ?_
  apply obindE h; intro r1 hx2 h
  have hc := nx (static_two_static_union_ok (h := hx2))
  refine callP hc ?_
  refine AW.ret ?_
  obtain rfl := Option.some.inj h
  refine nz ?_
  exact .same _

end Go.Proofs.Ytcgphoghmgeecaa
namespace Go.Proofs.Ytcgphoghmgeecaa
open Go Go.Iso Go.Proofs
set_option linter.unusedSimpArgs false
set_option linter.unusedVariables false
set_option maxRecDepth 100000

/-! ### isochrone/isochronelaw10.StaticBinds -/
def law10_StaticBinds (K : Nat) (p0 : NodeA) (p1 : NodeA) : Option Bool := (law10_awake K ).bind fun r1 => 
  if (!r1) then
    some false
  else
    ((
      ((
        (r08_Size K p0).bind fun r8 => 
        (r08_Size K p1).bind fun r10 => 
        if (decide ((500 : Int) < (IntKind.wrap .i64 (r8 + r10)))) then
          some true
        else
          (r08_Check K p0 (3 : Int)).bind fun r13 => 
          if (r13 != (0 : Int)) then
            some true
          else
            (r08_Check K p1 (3 : Int)).bind fun r16 => 
            some (r16 != (0 : Int))) : Option Bool).bind (fun v6_0 => 
      if v6_0 then
        outM (
          some true)
      else
        some (.go ()))) : Option (Out Unit _)).bind (Out.fin fun _ => 
    (r08_Check K (NodeA.mk (57 : Int) (⟨#[]⟩ : ByteArray) (RatA.mk false [] []) [p0, p1]) (3 : Int)).bind fun r19 => 
    if (r19 != (0 : Int)) then
      some true
    else
      (static_Must K p0).bind fun r22 => 
      (static_Bound K p0).bind fun r24 => 
      (static_Bound K p1).bind fun r26 => 
      (static_Bound K (NodeA.mk (57 : Int) (⟨#[]⟩ : ByteArray) (RatA.mk false [] []) [p0, p1])).bind fun r28 => 
      (static_Union K r24.1 r26.1).bind fun r30 => 
      ((
        ((
          if (r22.2 != (0 : Int)) then
            some true
          else
            if (r24.2 != (0 : Int)) then
              some true
            else
              if (r26.2 != (0 : Int)) then
                some true
              else
                if (r28.2 != (0 : Int)) then
                  some true
                else
                  if (r30.2 != (0 : Int)) then
                    some true
                  else
                    (r10_Same K r28.1 r30.1).bind fun r41 => 
                    some (!r41)) : Option Bool).bind (fun v34_0 => 
        if v34_0 then
          outM (
            some false)
        else
          some (.go ()))) : Option (Out Unit _)).bind (Out.fin fun _ => 
      (static_Minus K r22.1 r24.1).bind fun r44 => 
      ((
        ((
          if (r44.2 != (0 : Int)) then
            some true
          else
            (r10_Empty K r44.1).bind fun r51 => 
            some (!r51)) : Option Bool).bind (fun v48_0 => 
        if v48_0 then
          outM (
            some false)
        else
          some (.go ()))) : Option (Out Unit _)).bind (Out.fin fun _ => 
      (static_Free K p0).bind fun r54 => 
      (static_Free K p1).bind fun r56 => 
      (static_Free K (NodeA.mk (57 : Int) (⟨#[]⟩ : ByteArray) (RatA.mk false [] []) [p0, p1])).bind fun r58 => 
      (static_Minus K r56.1 r22.1).bind fun r60 => 
      (static_Union K r54.1 r60.1).bind fun r62 => 
      if (r54.2 == (0 : Int)) then
        if (r56.2 == (0 : Int)) then
          if (r58.2 == (0 : Int)) then
            if (r60.2 == (0 : Int)) then
              if (r62.2 == (0 : Int)) then
                (r10_Same K r58.1 r62.1).bind fun r69 => 
                some r69
              else
                some false
            else
              some false
          else
            some false
        else
          some false
      else
        some false)))
set_option maxHeartbeats 4000000 in
theorem law10_StaticBinds_ok {K : Nat} {p0 : NodeA} {p1 : NodeA} {r : Bool} (h : law10_StaticBinds K p0 p1 = some r) : Cn Try.prog 5 [aggV p0.enc, aggV p1.enc] (.d (.val (.bool r))) := by
  refine Cn.ofA mixed Try.func5 rfl Try.call5 Try.ntmps5 Try.results5 (by simp) (by simp only [go_sem, Nat.reduceEqDiff, Nat.reduceAdd, Nat.reduceSub, Nat.reduceMul, Nat.reduceLeDiff, Nat.reduceLT, Nat.reduceBEq, reduceIte]) fun hfit => ?_
  unfold law10_StaticBinds at h
  refine AW.kp [] [0, 1] ?_
  refine AW.op mixed ?_
  refine AW.kp [0, 1] [2, 3] ?_
  refine AW.one ?_
  refine AW.op mixed ?_
  apply obindE h; intro r1 hx2 h
  have hc := nx (law10_awake_ok (h := hx2))
  refine callP hc ?_
  refine AW.kp [0, 1] [2, 3, 23] ?_
  refine AW.ts (!r1) (fun hb3 => ?_) (fun hb3 => ?_)
  · have h := ifT hb3 h
    refine AW.op mixed ?_
    refine AW.ret ?_
    obtain rfl := Option.some.inj h
    refine nz ?_
    exact .same _
  have h := ifF hb3 h
  refine AW.sk ?_
  refine AW.kp [0, 1] [2, 3] ?_
  refine AW.one ?_
  refine obindE h fun oJ5 h hJ5 => ?_
  refine AW.join (S := Unit) (fun _ => [(2, .ptr 0 6 0 0), (3, .ptr 1 6 0 0)]) (fun _ => [some ⟨6, [[.d (.val (.int .i64 p0.op)), .d (.val (.string p0.name)), .d (.val (.bool p0.num.neg)), .d (slD u32V p0.num.num), .d (slD u32V p0.num.den), .d (slD NodeA.enc p0.kids)]]⟩, some ⟨6, [[.d (.val (.int .i64 p1.op)), .d (.val (.string p1.name)), .d (.val (.bool p1.num.neg)), .d (slD u32V p1.num.num), .d (slD u32V p1.num.den), .d (slD NodeA.enc p1.kids)]]⟩]) (fun x => oJ5 = .go x) ?_ ?_
  · skip
    refine AW.one ?_
    refine obindE h fun oJ7 h hJ7 => ?_
    refine AW.join (S := Bool) (fun v6_0 => [(2, .ptr 0 6 0 0), (3, .ptr 1 6 0 0), (39, .d (.val (.bool v6_0)))]) (fun v6_0 => [some ⟨6, [[.d (.val (.int .i64 p0.op)), .d (.val (.string p0.name)), .d (.val (.bool p0.num.neg)), .d (slD u32V p0.num.num), .d (slD u32V p0.num.den), .d (slD NodeA.enc p0.kids)]]⟩, some ⟨6, [[.d (.val (.int .i64 p1.op)), .d (.val (.string p1.name)), .d (.val (.bool p1.num.neg)), .d (slD u32V p1.num.num), .d (slD u32V p1.num.den), .d (slD NodeA.enc p1.kids)]]⟩]) (fun x => x = oJ7) ?_ ?_
    · skip
      refine AW.rg mixed ?_
      apply obindE h; intro r8 hx9 h
      have hc := nx (r08_Size_ok (h := hx9))
      refine callD hc ?_
      apply obindE h; intro r10 hx11 h
      have hc := nx (r08_Size_ok (h := hx11))
      refine callD hc ?_
      refine splitK_intro (fun hb12 => ?_) (fun hb12 => ?_)
      · have h := ifT hb12 h
        try simp only [go_sem, Nat.reduceEqDiff, Nat.reduceAdd, Nat.reduceSub, Nat.reduceMul, Nat.reduceLeDiff, Nat.reduceLT, Nat.reduceBEq, reduceIte, hb12]
        refine JoinQ.mk true [0, 1] (Option.some.inj h) (by simp only [go_sem, Nat.reduceEqDiff, Nat.reduceAdd, Nat.reduceSub, Nat.reduceMul, Nat.reduceLeDiff, Nat.reduceLT, Nat.reduceBEq, reduceIte, hb12])
      have h := ifF hb12 h
      try simp only [go_sem, Nat.reduceEqDiff, Nat.reduceAdd, Nat.reduceSub, Nat.reduceMul, Nat.reduceLeDiff, Nat.reduceLT, Nat.reduceBEq, reduceIte, hb12]
      apply obindE h; intro r13 hx14 h
      have hc := nx (r08_Check_ok (h := hx14))
      refine pcallK_intro hc (by simp only [go_sem, Nat.reduceEqDiff, Nat.reduceAdd, Nat.reduceSub, Nat.reduceMul, Nat.reduceLeDiff, Nat.reduceLT, Nat.reduceBEq, reduceIte]) ?_
      try simp only [go_sem, Nat.reduceEqDiff, Nat.reduceAdd, Nat.reduceSub, Nat.reduceMul, Nat.reduceLeDiff, Nat.reduceLT, Nat.reduceBEq, reduceIte, hb12]
      refine splitK_intro (fun hb15 => ?_) (fun hb15 => ?_)
      · have h := ifT hb15 h
        try simp only [go_sem, Nat.reduceEqDiff, Nat.reduceAdd, Nat.reduceSub, Nat.reduceMul, Nat.reduceLeDiff, Nat.reduceLT, Nat.reduceBEq, reduceIte, hb12, hb15]
        refine JoinQ.mk true [0, 1] (Option.some.inj h) (by simp only [go_sem, Nat.reduceEqDiff, Nat.reduceAdd, Nat.reduceSub, Nat.reduceMul, Nat.reduceLeDiff, Nat.reduceLT, Nat.reduceBEq, reduceIte, hb12, hb15])
      have h := ifF hb15 h
      try simp only [go_sem, Nat.reduceEqDiff, Nat.reduceAdd, Nat.reduceSub, Nat.reduceMul, Nat.reduceLeDiff, Nat.reduceLT, Nat.reduceBEq, reduceIte, hb12, hb15]
      apply obindE h; intro r16 hx17 h
      have hc := nx (r08_Check_ok (h := hx17))
      refine pcallK_intro hc (by simp only [go_sem, Nat.reduceEqDiff, Nat.reduceAdd, Nat.reduceSub, Nat.reduceMul, Nat.reduceLeDiff, Nat.reduceLT, Nat.reduceBEq, reduceIte]) ?_
      try simp only [go_sem, Nat.reduceEqDiff, Nat.reduceAdd, Nat.reduceSub, Nat.reduceMul, Nat.reduceLeDiff, Nat.reduceLT, Nat.reduceBEq, reduceIte, hb12, hb15]
      refine JoinQ.mk (r16 != (0 : Int)) [0, 1] (Option.some.inj h) (by simp only [go_sem, Nat.reduceEqDiff, Nat.reduceAdd, Nat.reduceSub, Nat.reduceMul, Nat.reduceLeDiff, Nat.reduceLT, Nat.reduceBEq, reduceIte, hb12, hb15])
    rintro v6_0 rfl
    have h := hJ7
    try dsimp only [Out.fin] at h
    refine nz ?_
    refine AW.ts v6_0 (fun hb18 => ?_) (fun hb18 => ?_)
    · have h := ifT hb18 h
      refine AW.op mixed ?_
      refine AW.ret ?_
      obtain ⟨_, h, ho⟩ := outM_some h
      rw [ho, Out.fin_out] at hJ5
      have h := h.trans hJ5
      obtain rfl := Option.some.inj h
      refine nz ?_
      exact .same _
    have h := ifF hb18 h
    refine AW.sk ?_
    exact JoinQ.ar () [0, 1] (Option.some.inj h).symm
  rintro ⟨⟩ rfl
  have h := hJ5
  try dsimp only [Out.fin] at h
  refine nz ?_
  refine AW.op mixed ?_
  refine AW.kp [0, 1, 6] [2, 3, 5] ?_
  refine AW.one ?_
  refine AW.op mixed ?_
  apply obindE h; intro r19 hx20 h
  have hc := r08_Check_ok (h := hx20)
  try simp only [slD, NodeA.enc_eta, RatA.enc_eta, NodeA.op_mk, NodeA.name_mk, NodeA.num_mk, NodeA.kids_mk, aggV, i64V, u32V, strV, List.map_cons, List.map_nil] at hc
  refine callK_conv hc ⟨.aggL ⟨.same _, .same _, .same _, .nil, .nil, .d (.dn (.rows ⟨⟨.refl _, .refl _, .refl _, .refl _, .refl _, .refl _, trivial⟩, ⟨.refl _, .refl _, .refl _, .refl _, .refl _, .refl _, trivial⟩, trivial⟩)), trivial⟩, .same _, trivial⟩ (by simp only [go_sem, Nat.reduceEqDiff, Nat.reduceAdd, Nat.reduceSub, Nat.reduceMul, Nat.reduceLeDiff, Nat.reduceLT, Nat.reduceBEq, reduceIte]) ?_
  try simp only [go_sem, Nat.reduceEqDiff, Nat.reduceAdd, Nat.reduceSub, Nat.reduceMul, Nat.reduceLeDiff, Nat.reduceLT, Nat.reduceBEq, reduceIte]
  refine AW.kp [0, 1, 2] [2, 3, 5, 46] ?_
  refine AW.ts (r19 != (0 : Int)) (fun hb21 => ?_) (fun hb21 => ?_)
  · have h := ifT hb21 h
    refine AW.op mixed ?_
    refine AW.ret ?_
    obtain rfl := Option.some.inj h
    refine nz ?_
    exact .same _
  have h := ifF hb21 h
  refine AW.sk ?_
  refine AW.kp [0, 1, 2] [2, 3, 5] ?_
  refine AW.op mixed ?_
  apply obindE h; intro r22 hx23 h
  have hc := nx (static_Must_ok (h := hx23))
  refine callP hc ?_
  refine AW.kp [0, 1, 2, 8] [2, 3, 5, 6, 7] ?_
  refine AW.op mixed ?_
  apply obindE h; intro r24 hx25 h
  have hc := nx (static_Bound_ok (h := hx25))
  refine callP hc ?_
  refine AW.kp [0, 1, 2, 3, 9] [2, 3, 5, 6, 7, 8, 9] ?_
  refine AW.op mixed ?_
  apply obindE h; intro r26 hx27 h
  have hc := nx (static_Bound_ok (h := hx27))
  refine callP hc ?_
  refine AW.kp [0, 1, 2, 3, 4, 10] [2, 3, 5, 6, 7, 8, 9, 10, 11] ?_
  refine AW.op mixed ?_
  apply obindE h; intro r28 hx29 h
  have hc := static_Bound_ok (h := hx29)
  try simp only [slD, NodeA.enc_eta, RatA.enc_eta, NodeA.op_mk, NodeA.name_mk, NodeA.num_mk, NodeA.kids_mk, aggV, i64V, u32V, strV, List.map_cons, List.map_nil] at hc
  refine callK_conv hc ⟨.aggL ⟨.same _, .same _, .same _, .nil, .nil, .d (.dn (.rows ⟨⟨.refl _, .refl _, .refl _, .refl _, .refl _, .refl _, trivial⟩, ⟨.refl _, .refl _, .refl _, .refl _, .refl _, .refl _, trivial⟩, trivial⟩)), trivial⟩, trivial⟩ (by simp only [go_sem, Nat.reduceEqDiff, Nat.reduceAdd, Nat.reduceSub, Nat.reduceMul, Nat.reduceLeDiff, Nat.reduceLT, Nat.reduceBEq, reduceIte]) ?_
  try simp only [go_sem, Nat.reduceEqDiff, Nat.reduceAdd, Nat.reduceSub, Nat.reduceMul, Nat.reduceLeDiff, Nat.reduceLT, Nat.reduceBEq, reduceIte]
  refine AW.kp [0, 1, 2, 3, 4, 5, 11] [2, 3, 5, 6, 7, 8, 9, 10, 11, 12, 13] ?_
  refine AW.op mixed ?_
  apply obindE h; intro r30 hx31 h
  have hc := nx (static_Union_ok (h := hx31))
  refine callP hc ?_
  refine AW.kp [0, 1, 2, 3, 4, 6, 13] [2, 3, 5, 6, 7, 8, 9, 11, 12, 13, 14, 15] ?_
  refine AW.one ?_
  refine obindE h fun oJ33 h hJ33 => ?_
  refine AW.join (S := Unit) (fun _ => [(2, .ptr 0 6 0 0), (3, .ptr 1 6 0 0), (5, .ptr 2 6 0 0), (6, .ptr 3 2 0 0), (8, .ptr 4 2 0 0)]) (fun _ => [some ⟨6, [[.d (.val (.int .i64 p0.op)), .d (.val (.string p0.name)), .d (.val (.bool p0.num.neg)), .d (slD u32V p0.num.num), .d (slD u32V p0.num.den), .d (slD NodeA.enc p0.kids)]]⟩, some ⟨6, [[.d (.val (.int .i64 p1.op)), .d (.val (.string p1.name)), .d (.val (.bool p1.num.neg)), .d (slD u32V p1.num.num), .d (slD u32V p1.num.den), .d (slD NodeA.enc p1.kids)]]⟩, some ⟨6, [[.d (.val (.int .i64 (57 : Int))), .d (.val (.string (⟨#[]⟩ : ByteArray))), .d (.val (.bool false)), .d (.val (.slice none 0 0)), .d (.val (.slice none 0 0)), .d (.sl [[.val (.int .i64 p0.op), .val (.string p0.name), .val (.bool p0.num.neg), slD u32V p0.num.num, slD u32V p0.num.den, slD NodeA.enc p0.kids], [.val (.int .i64 p1.op), .val (.string p1.name), .val (.bool p1.num.neg), slD u32V p1.num.num, slD u32V p1.num.den, slD NodeA.enc p1.kids]])]]⟩, some ⟨2, [[.d (.val (.bool r22.1.all)), .d (slD strV r22.1.list)]]⟩, some ⟨2, [[.d (.val (.bool r24.1.all)), .d (slD strV r24.1.list)]]⟩]) (fun x => oJ33 = .go x) ?_ ?_
  · skip
    refine AW.one ?_
    refine obindE h fun oJ35 h hJ35 => ?_
    refine AW.join (S := Bool) (fun v34_0 => [(2, .ptr 0 6 0 0), (3, .ptr 1 6 0 0), (5, .ptr 2 6 0 0), (6, .ptr 3 2 0 0), (8, .ptr 4 2 0 0), (96, .d (.val (.bool v34_0)))]) (fun v34_0 => [some ⟨6, [[.d (.val (.int .i64 p0.op)), .d (.val (.string p0.name)), .d (.val (.bool p0.num.neg)), .d (slD u32V p0.num.num), .d (slD u32V p0.num.den), .d (slD NodeA.enc p0.kids)]]⟩, some ⟨6, [[.d (.val (.int .i64 p1.op)), .d (.val (.string p1.name)), .d (.val (.bool p1.num.neg)), .d (slD u32V p1.num.num), .d (slD u32V p1.num.den), .d (slD NodeA.enc p1.kids)]]⟩, some ⟨6, [[.d (.val (.int .i64 (57 : Int))), .d (.val (.string (⟨#[]⟩ : ByteArray))), .d (.val (.bool false)), .d (.val (.slice none 0 0)), .d (.val (.slice none 0 0)), .d (.sl [[.val (.int .i64 p0.op), .val (.string p0.name), .val (.bool p0.num.neg), slD u32V p0.num.num, slD u32V p0.num.den, slD NodeA.enc p0.kids], [.val (.int .i64 p1.op), .val (.string p1.name), .val (.bool p1.num.neg), slD u32V p1.num.num, slD u32V p1.num.den, slD NodeA.enc p1.kids]])]]⟩, some ⟨2, [[.d (.val (.bool r22.1.all)), .d (slD strV r22.1.list)]]⟩, some ⟨2, [[.d (.val (.bool r24.1.all)), .d (slD strV r24.1.list)]]⟩]) (fun x => x = oJ35) ?_ ?_
    · skip
      refine AW.rg mixed ?_
      refine splitK_intro (fun hb36 => ?_) (fun hb36 => ?_)
      · have h := ifT hb36 h
        try simp only [go_sem, Nat.reduceEqDiff, Nat.reduceAdd, Nat.reduceSub, Nat.reduceMul, Nat.reduceLeDiff, Nat.reduceLT, Nat.reduceBEq, reduceIte, hb36]
        refine JoinQ.mk true [0, 1, 2, 3, 4] (Option.some.inj h) (by simp only [go_sem, Nat.reduceEqDiff, Nat.reduceAdd, Nat.reduceSub, Nat.reduceMul, Nat.reduceLeDiff, Nat.reduceLT, Nat.reduceBEq, reduceIte, hb36])
      have h := ifF hb36 h
      try simp only [go_sem, Nat.reduceEqDiff, Nat.reduceAdd, Nat.reduceSub, Nat.reduceMul, Nat.reduceLeDiff, Nat.reduceLT, Nat.reduceBEq, reduceIte, hb36]
      refine splitK_intro (fun hb37 => ?_) (fun hb37 => ?_)
      · have h := ifT hb37 h
        try simp only [go_sem, Nat.reduceEqDiff, Nat.reduceAdd, Nat.reduceSub, Nat.reduceMul, Nat.reduceLeDiff, Nat.reduceLT, Nat.reduceBEq, reduceIte, hb36, hb37]
        refine JoinQ.mk true [0, 1, 2, 3, 4] (Option.some.inj h) (by simp only [go_sem, Nat.reduceEqDiff, Nat.reduceAdd, Nat.reduceSub, Nat.reduceMul, Nat.reduceLeDiff, Nat.reduceLT, Nat.reduceBEq, reduceIte, hb36, hb37])
      have h := ifF hb37 h
      try simp only [go_sem, Nat.reduceEqDiff, Nat.reduceAdd, Nat.reduceSub, Nat.reduceMul, Nat.reduceLeDiff, Nat.reduceLT, Nat.reduceBEq, reduceIte, hb36, hb37]
      refine splitK_intro (fun hb38 => ?_) (fun hb38 => ?_)
      · have h := ifT hb38 h
        try simp only [go_sem, Nat.reduceEqDiff, Nat.reduceAdd, Nat.reduceSub, Nat.reduceMul, Nat.reduceLeDiff, Nat.reduceLT, Nat.reduceBEq, reduceIte, hb36, hb37, hb38]
        refine JoinQ.mk true [0, 1, 2, 3, 4] (Option.some.inj h) (by simp only [go_sem, Nat.reduceEqDiff, Nat.reduceAdd, Nat.reduceSub, Nat.reduceMul, Nat.reduceLeDiff, Nat.reduceLT, Nat.reduceBEq, reduceIte, hb36, hb37, hb38])
      have h := ifF hb38 h
      try simp only [go_sem, Nat.reduceEqDiff, Nat.reduceAdd, Nat.reduceSub, Nat.reduceMul, Nat.reduceLeDiff, Nat.reduceLT, Nat.reduceBEq, reduceIte, hb36, hb37, hb38]
      refine splitK_intro (fun hb39 => ?_) (fun hb39 => ?_)
      · have h := ifT hb39 h
        try simp only [go_sem, Nat.reduceEqDiff, Nat.reduceAdd, Nat.reduceSub, Nat.reduceMul, Nat.reduceLeDiff, Nat.reduceLT, Nat.reduceBEq, reduceIte, hb36, hb37, hb38, hb39]
        refine JoinQ.mk true [0, 1, 2, 3, 4] (Option.some.inj h) (by simp only [go_sem, Nat.reduceEqDiff, Nat.reduceAdd, Nat.reduceSub, Nat.reduceMul, Nat.reduceLeDiff, Nat.reduceLT, Nat.reduceBEq, reduceIte, hb36, hb37, hb38, hb39])
      have h := ifF hb39 h
      try simp only [go_sem, Nat.reduceEqDiff, Nat.reduceAdd, Nat.reduceSub, Nat.reduceMul, Nat.reduceLeDiff, Nat.reduceLT, Nat.reduceBEq, reduceIte, hb36, hb37, hb38, hb39]
      refine splitK_intro (fun hb40 => ?_) (fun hb40 => ?_)
      · have h := ifT hb40 h
        try simp only [go_sem, Nat.reduceEqDiff, Nat.reduceAdd, Nat.reduceSub, Nat.reduceMul, Nat.reduceLeDiff, Nat.reduceLT, Nat.reduceBEq, reduceIte, hb36, hb37, hb38, hb39, hb40]
        refine JoinQ.mk true [0, 1, 2, 3, 4] (Option.some.inj h) (by simp only [go_sem, Nat.reduceEqDiff, Nat.reduceAdd, Nat.reduceSub, Nat.reduceMul, Nat.reduceLeDiff, Nat.reduceLT, Nat.reduceBEq, reduceIte, hb36, hb37, hb38, hb39, hb40])
      have h := ifF hb40 h
      try simp only [go_sem, Nat.reduceEqDiff, Nat.reduceAdd, Nat.reduceSub, Nat.reduceMul, Nat.reduceLeDiff, Nat.reduceLT, Nat.reduceBEq, reduceIte, hb36, hb37, hb38, hb39, hb40]
      apply obindE h; intro r41 hx42 h
      have hc := nx (r10_Same_ok (h := hx42))
      refine callK_pure hc (by simp only [go_sem, Nat.reduceEqDiff, Nat.reduceAdd, Nat.reduceSub, Nat.reduceMul, Nat.reduceLeDiff, Nat.reduceLT, Nat.reduceBEq, reduceIte]) ?_
      try simp only [go_sem, Nat.reduceEqDiff, Nat.reduceAdd, Nat.reduceSub, Nat.reduceMul, Nat.reduceLeDiff, Nat.reduceLT, Nat.reduceBEq, reduceIte, hb36, hb37, hb38, hb39, hb40]
      refine JoinQ.mk (!r41) [0, 1, 2, 3, 4] (Option.some.inj h) (by simp only [go_sem, Nat.reduceEqDiff, Nat.reduceAdd, Nat.reduceSub, Nat.reduceMul, Nat.reduceLeDiff, Nat.reduceLT, Nat.reduceBEq, reduceIte, hb36, hb37, hb38, hb39, hb40])
    rintro v34_0 rfl
    have h := hJ35
    try dsimp only [Out.fin] at h
    refine nz ?_
    refine AW.ts v34_0 (fun hb43 => ?_) (fun hb43 => ?_)
    · have h := ifT hb43 h
      refine AW.op mixed ?_
      refine AW.ret ?_
      obtain ⟨_, h, ho⟩ := outM_some h
      rw [ho, Out.fin_out] at hJ33
      have h := h.trans hJ33
      obtain rfl := Option.some.inj h
      refine nz ?_
      exact .same _
    have h := ifF hb43 h
    refine AW.sk ?_
    exact JoinQ.ar () [0, 1, 2, 3, 4] (Option.some.inj h).symm
  rintro ⟨⟩ rfl
  have h := hJ33
  try dsimp only [Out.fin] at h
  refine nz ?_
  refine AW.op mixed ?_
  apply obindE h; intro r44 hx45 h
  have hc := nx (static_Minus_ok (h := hx45))
  refine callP hc ?_
  refine AW.kp [0, 1, 2, 3, 11] [2, 3, 5, 6, 7, 16] ?_
  refine AW.one ?_
  refine obindE h fun oJ47 h hJ47 => ?_
  refine AW.join (S := Unit) (fun _ => [(2, .ptr 0 6 0 0), (3, .ptr 1 6 0 0), (5, .ptr 2 6 0 0), (6, .ptr 3 2 0 0)]) (fun _ => [some ⟨6, [[.d (.val (.int .i64 p0.op)), .d (.val (.string p0.name)), .d (.val (.bool p0.num.neg)), .d (slD u32V p0.num.num), .d (slD u32V p0.num.den), .d (slD NodeA.enc p0.kids)]]⟩, some ⟨6, [[.d (.val (.int .i64 p1.op)), .d (.val (.string p1.name)), .d (.val (.bool p1.num.neg)), .d (slD u32V p1.num.num), .d (slD u32V p1.num.den), .d (slD NodeA.enc p1.kids)]]⟩, some ⟨6, [[.d (.val (.int .i64 (57 : Int))), .d (.val (.string (⟨#[]⟩ : ByteArray))), .d (.val (.bool false)), .d (.val (.slice none 0 0)), .d (.val (.slice none 0 0)), .d (.sl [[.val (.int .i64 p0.op), .val (.string p0.name), .val (.bool p0.num.neg), slD u32V p0.num.num, slD u32V p0.num.den, slD NodeA.enc p0.kids], [.val (.int .i64 p1.op), .val (.string p1.name), .val (.bool p1.num.neg), slD u32V p1.num.num, slD u32V p1.num.den, slD NodeA.enc p1.kids]])]]⟩, some ⟨2, [[.d (.val (.bool r22.1.all)), .d (slD strV r22.1.list)]]⟩]) (fun x => oJ47 = .go x) ?_ ?_
  · skip
    refine AW.one ?_
    refine obindE h fun oJ49 h hJ49 => ?_
    refine AW.join (S := Bool) (fun v48_0 => [(2, .ptr 0 6 0 0), (3, .ptr 1 6 0 0), (5, .ptr 2 6 0 0), (6, .ptr 3 2 0 0), (109, .d (.val (.bool v48_0)))]) (fun v48_0 => [some ⟨6, [[.d (.val (.int .i64 p0.op)), .d (.val (.string p0.name)), .d (.val (.bool p0.num.neg)), .d (slD u32V p0.num.num), .d (slD u32V p0.num.den), .d (slD NodeA.enc p0.kids)]]⟩, some ⟨6, [[.d (.val (.int .i64 p1.op)), .d (.val (.string p1.name)), .d (.val (.bool p1.num.neg)), .d (slD u32V p1.num.num), .d (slD u32V p1.num.den), .d (slD NodeA.enc p1.kids)]]⟩, some ⟨6, [[.d (.val (.int .i64 (57 : Int))), .d (.val (.string (⟨#[]⟩ : ByteArray))), .d (.val (.bool false)), .d (.val (.slice none 0 0)), .d (.val (.slice none 0 0)), .d (.sl [[.val (.int .i64 p0.op), .val (.string p0.name), .val (.bool p0.num.neg), slD u32V p0.num.num, slD u32V p0.num.den, slD NodeA.enc p0.kids], [.val (.int .i64 p1.op), .val (.string p1.name), .val (.bool p1.num.neg), slD u32V p1.num.num, slD u32V p1.num.den, slD NodeA.enc p1.kids]])]]⟩, some ⟨2, [[.d (.val (.bool r22.1.all)), .d (slD strV r22.1.list)]]⟩]) (fun x => x = oJ49) ?_ ?_
    · skip
      refine AW.rg mixed ?_
      refine splitK_intro (fun hb50 => ?_) (fun hb50 => ?_)
      · have h := ifT hb50 h
        try simp only [go_sem, Nat.reduceEqDiff, Nat.reduceAdd, Nat.reduceSub, Nat.reduceMul, Nat.reduceLeDiff, Nat.reduceLT, Nat.reduceBEq, reduceIte, hb50]
        refine JoinQ.mk true [0, 1, 2, 3] (Option.some.inj h) (by simp only [go_sem, Nat.reduceEqDiff, Nat.reduceAdd, Nat.reduceSub, Nat.reduceMul, Nat.reduceLeDiff, Nat.reduceLT, Nat.reduceBEq, reduceIte, hb50])
      have h := ifF hb50 h
      try simp only [go_sem, Nat.reduceEqDiff, Nat.reduceAdd, Nat.reduceSub, Nat.reduceMul, Nat.reduceLeDiff, Nat.reduceLT, Nat.reduceBEq, reduceIte, hb50]
      apply obindE h; intro r51 hx52 h
      have hc := nx (r10_Empty_ok (h := hx52))
      refine callK_pure hc (by simp only [go_sem, Nat.reduceEqDiff, Nat.reduceAdd, Nat.reduceSub, Nat.reduceMul, Nat.reduceLeDiff, Nat.reduceLT, Nat.reduceBEq, reduceIte]) ?_
      try simp only [go_sem, Nat.reduceEqDiff, Nat.reduceAdd, Nat.reduceSub, Nat.reduceMul, Nat.reduceLeDiff, Nat.reduceLT, Nat.reduceBEq, reduceIte, hb50]
      refine JoinQ.mk (!r51) [0, 1, 2, 3] (Option.some.inj h) (by simp only [go_sem, Nat.reduceEqDiff, Nat.reduceAdd, Nat.reduceSub, Nat.reduceMul, Nat.reduceLeDiff, Nat.reduceLT, Nat.reduceBEq, reduceIte, hb50])
    rintro v48_0 rfl
    have h := hJ49
    try dsimp only [Out.fin] at h
    refine nz ?_
    refine AW.ts v48_0 (fun hb53 => ?_) (fun hb53 => ?_)
    · have h := ifT hb53 h
      refine AW.op mixed ?_
      refine AW.ret ?_
      obtain ⟨_, h, ho⟩ := outM_some h
      rw [ho, Out.fin_out] at hJ47
      have h := h.trans hJ47
      obtain rfl := Option.some.inj h
      refine nz ?_
      exact .same _
    have h := ifF hb53 h
    refine AW.sk ?_
    exact JoinQ.ar () [0, 1, 2, 3] (Option.some.inj h).symm
  rintro ⟨⟩ rfl
  have h := hJ47
  try dsimp only [Out.fin] at h
  refine nz ?_
  refine AW.op mixed ?_
  apply obindE h; intro r54 hx55 h
  have hc := nx (static_Free_ok (h := hx55))
  refine callP hc ?_
  refine AW.kp [1, 2, 3, 9] [3, 5, 6, 7, 17] ?_
  refine AW.op mixed ?_
  apply obindE h; intro r56 hx57 h
  have hc := nx (static_Free_ok (h := hx57))
  refine callP hc ?_
  refine AW.kp [1, 2, 3, 9] [5, 6, 7, 9, 17, 18] ?_
  refine AW.op mixed ?_
  apply obindE h; intro r58 hx59 h
  have hc := static_Free_ok (h := hx59)
  try simp only [slD, NodeA.enc_eta, RatA.enc_eta, NodeA.op_mk, NodeA.name_mk, NodeA.num_mk, NodeA.kids_mk, aggV, i64V, u32V, strV, List.map_cons, List.map_nil] at hc
  refine callK_conv hc ⟨.aggL ⟨.same _, .same _, .same _, .nil, .nil, .d (.dn (.rows ⟨⟨.refl _, .refl _, .refl _, .refl _, .refl _, .refl _, trivial⟩, ⟨.refl _, .refl _, .refl _, .refl _, .refl _, .refl _, trivial⟩, trivial⟩)), trivial⟩, trivial⟩ (by simp only [go_sem, Nat.reduceEqDiff, Nat.reduceAdd, Nat.reduceSub, Nat.reduceMul, Nat.reduceLeDiff, Nat.reduceLT, Nat.reduceBEq, reduceIte]) ?_
  try simp only [go_sem, Nat.reduceEqDiff, Nat.reduceAdd, Nat.reduceSub, Nat.reduceMul, Nat.reduceLeDiff, Nat.reduceLT, Nat.reduceBEq, reduceIte]
  refine AW.kp [1, 2, 3, 9] [6, 7, 9, 11, 17, 18, 19] ?_
  refine AW.op mixed ?_
  apply obindE h; intro r60 hx61 h
  have hc := nx (static_Minus_ok (h := hx61))
  refine callP hc ?_
  refine AW.kp [1, 3, 10] [7, 9, 11, 13, 17, 19, 20] ?_
  refine AW.op mixed ?_
  apply obindE h; intro r62 hx63 h
  have hc := nx (static_Union_ok (h := hx63))
  refine callP hc ?_
  refine AW.kp [1, 9] [7, 9, 11, 13, 15, 19, 21] ?_
  refine AW.op mixed ?_
  refine splitK_intro (fun hb64 => ?_) (fun hb64 => ?_)
  · have h := ifT hb64 h
    try simp only [go_sem, Nat.reduceEqDiff, Nat.reduceAdd, Nat.reduceSub, Nat.reduceMul, Nat.reduceLeDiff, Nat.reduceLT, Nat.reduceBEq, reduceIte, hb64]
    refine splitK_intro (fun hb65 => ?_) (fun hb65 => ?_)
    · have h := ifT hb65 h
      try simp only [go_sem, Nat.reduceEqDiff, Nat.reduceAdd, Nat.reduceSub, Nat.reduceMul, Nat.reduceLeDiff, Nat.reduceLT, Nat.reduceBEq, reduceIte, hb64, hb65]
      refine splitK_intro (fun hb66 => ?_) (fun hb66 => ?_)
      · have h := ifT hb66 h
        try simp only [go_sem, Nat.reduceEqDiff, Nat.reduceAdd, Nat.reduceSub, Nat.reduceMul, Nat.reduceLeDiff, Nat.reduceLT, Nat.reduceBEq, reduceIte, hb64, hb65, hb66]
        refine splitK_intro (fun hb67 => ?_) (fun hb67 => ?_)
        · have h := ifT hb67 h
          try simp only [go_sem, Nat.reduceEqDiff, Nat.reduceAdd, Nat.reduceSub, Nat.reduceMul, Nat.reduceLeDiff, Nat.reduceLT, Nat.reduceBEq, reduceIte, hb64, hb65, hb66, hb67]
          refine splitK_intro (fun hb68 => ?_) (fun hb68 => ?_)
          · have h := ifT hb68 h
            try simp only [go_sem, Nat.reduceEqDiff, Nat.reduceAdd, Nat.reduceSub, Nat.reduceMul, Nat.reduceLeDiff, Nat.reduceLT, Nat.reduceBEq, reduceIte, hb64, hb65, hb66, hb67, hb68]
            apply obindE h; intro r69 hx70 h
            have hc := nx (r10_Same_ok (h := hx70))
            refine callK_pure hc (by simp only [go_sem, Nat.reduceEqDiff, Nat.reduceAdd, Nat.reduceSub, Nat.reduceMul, Nat.reduceLeDiff, Nat.reduceLT, Nat.reduceBEq, reduceIte]) ?_
            try simp only [go_sem, Nat.reduceEqDiff, Nat.reduceAdd, Nat.reduceSub, Nat.reduceMul, Nat.reduceLeDiff, Nat.reduceLT, Nat.reduceBEq, reduceIte, hb64, hb65, hb66, hb67, hb68]
            refine AW.ret ?_
            obtain rfl := Option.some.inj h
            refine nz ?_
            exact .same _
          have h := ifF hb68 h
          try simp only [go_sem, Nat.reduceEqDiff, Nat.reduceAdd, Nat.reduceSub, Nat.reduceMul, Nat.reduceLeDiff, Nat.reduceLT, Nat.reduceBEq, reduceIte, hb64, hb65, hb66, hb67, hb68]
          refine AW.ret ?_
          obtain rfl := Option.some.inj h
          refine nz ?_
          exact .same _
        have h := ifF hb67 h
        try simp only [go_sem, Nat.reduceEqDiff, Nat.reduceAdd, Nat.reduceSub, Nat.reduceMul, Nat.reduceLeDiff, Nat.reduceLT, Nat.reduceBEq, reduceIte, hb64, hb65, hb66, hb67]
        refine AW.ret ?_
        obtain rfl := Option.some.inj h
        refine nz ?_
        exact .same _
      have h := ifF hb66 h
      try simp only [go_sem, Nat.reduceEqDiff, Nat.reduceAdd, Nat.reduceSub, Nat.reduceMul, Nat.reduceLeDiff, Nat.reduceLT, Nat.reduceBEq, reduceIte, hb64, hb65, hb66]
      refine AW.ret ?_
      obtain rfl := Option.some.inj h
      refine nz ?_
      exact .same _
    have h := ifF hb65 h
    try simp only [go_sem, Nat.reduceEqDiff, Nat.reduceAdd, Nat.reduceSub, Nat.reduceMul, Nat.reduceLeDiff, Nat.reduceLT, Nat.reduceBEq, reduceIte, hb64, hb65]
    refine AW.ret ?_
    obtain rfl := Option.some.inj h
    refine nz ?_
    exact .same _
  have h := ifF hb64 h
  try simp only [go_sem, Nat.reduceEqDiff, Nat.reduceAdd, Nat.reduceSub, Nat.reduceMul, Nat.reduceLeDiff, Nat.reduceLT, Nat.reduceBEq, reduceIte, hb64]
  refine AW.ret ?_
  obtain rfl := Option.some.inj h
  refine nz ?_
  exact .same _

end Go.Proofs.Ytcgphoghmgeecaa
