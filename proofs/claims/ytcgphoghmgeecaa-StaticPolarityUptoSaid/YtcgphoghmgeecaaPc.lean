/- Part of the proof of a law: contracts of the functions that the law reaches, or plain laws of them, out of the abstract layer (the texts YtcgphoghmgeecaaIso..). No condition. -/
import Derived.Test.YtcgphoghmgeecaaW
import Derived.Test.YtcgphoghmgeecaaIsoJ
import Derived.Test.YtcgphoghmgeecaaLman
import Derived.Test.YtcgphoghmgeecaaPb
namespace Go.Proofs.Ytcgphoghmgeecaa
open Go Go.Iso Go.Proofs
set_option linter.unusedSimpArgs false
set_option linter.unusedVariables false
set_option maxRecDepth 100000

/-! ### isochrone/tree.shape -/
def tree_shape (K : Nat) (p0 : Int) : Option (Bool × (Option (List Int))) := ((
    if (p0 == (1 : Int)) then
      some (p0 == (1 : Int))
    else
      if (p0 == (13 : Int)) then
        some (p0 == (13 : Int))
      else
        if (p0 == (20 : Int)) then
          some (p0 == (20 : Int))
        else
          some (p0 == (21 : Int))) : Option Bool).bind (fun v1_0 => 
  if v1_0 then
    some (false, none)
  else
    ((
      if (p0 == (2 : Int)) then
        some (p0 == (2 : Int))
      else
        if (p0 == (3 : Int)) then
          some (p0 == (3 : Int))
        else
          if (p0 == (11 : Int)) then
            some (p0 == (11 : Int))
          else
            if (p0 == (38 : Int)) then
              some (p0 == (38 : Int))
            else
              if (p0 == (52 : Int)) then
                some (p0 == (52 : Int))
              else
                if (p0 == (56 : Int)) then
                  some (p0 == (56 : Int))
                else
                  if (p0 == (61 : Int)) then
                    some (p0 == (61 : Int))
                  else
                    some (p0 == (62 : Int))) : Option Bool).bind (fun v7_0 => 
    if v7_0 then
      some (true, none)
    else
      ((
        if (p0 == (4 : Int)) then
          some (p0 == (4 : Int))
        else
          if (p0 == (12 : Int)) then
            some (p0 == (12 : Int))
          else
            if (p0 == (53 : Int)) then
              some (p0 == (53 : Int))
            else
              if (p0 == (28 : Int)) then
                some (p0 == (28 : Int))
              else
                if (p0 == (39 : Int)) then
                  some (p0 == (39 : Int))
                else
                  if (p0 == (59 : Int)) then
                    some (p0 == (59 : Int))
                  else
                    some (p0 == (60 : Int))) : Option Bool).bind (fun v17_0 => 
      if v17_0 then
        ((
          ((
            if (p0 == (4 : Int)) then
              some (p0 == (4 : Int))
            else
              some (p0 == (12 : Int))) : Option Bool).bind (fun v28_0 => 
          if v28_0 then
            outM (
              some (false, (some [(1 : Int)])))
          else
            ((
              if (p0 == (59 : Int)) then
                some (p0 == (59 : Int))
              else
                some (p0 == (60 : Int))) : Option Bool).bind (fun v32_0 => 
            if v32_0 then
              outM (
                some (false, (some [(3 : Int)])))
            else
              some (.go ())))) : Option (Out Unit _)).bind (Out.fin fun _ => 
        some (false, (some [(2 : Int)])))
      else
        ((
          if (p0 == (5 : Int)) then
            some (p0 == (5 : Int))
          else
            if (p0 == (6 : Int)) then
              some (p0 == (6 : Int))
            else
              if (p0 == (7 : Int)) then
                some (p0 == (7 : Int))
              else
                if (p0 == (8 : Int)) then
                  some (p0 == (8 : Int))
                else
                  if (p0 == (9 : Int)) then
                    some (p0 == (9 : Int))
                  else
                    if (p0 == (22 : Int)) then
                      some (p0 == (22 : Int))
                    else
                      if (p0 == (23 : Int)) then
                        some (p0 == (23 : Int))
                      else
                        if (p0 == (24 : Int)) then
                          some (p0 == (24 : Int))
                        else
                          if (p0 == (25 : Int)) then
                            some (p0 == (25 : Int))
                          else
                            if (p0 == (26 : Int)) then
                              some (p0 == (26 : Int))
                            else
                              some (p0 == (27 : Int))) : Option Bool).bind (fun v36_0 => 
        if v36_0 then
          some (false, (some [(1 : Int), (1 : Int)]))
        else
          ((
            if (p0 == (29 : Int)) then
              some (p0 == (29 : Int))
            else
              if (p0 == (30 : Int)) then
                some (p0 == (30 : Int))
              else
                if (p0 == (31 : Int)) then
                  some (p0 == (31 : Int))
                else
                  some (p0 == (32 : Int))) : Option Bool).bind (fun v49_0 => 
          if v49_0 then
            some (false, (some [(2 : Int), (2 : Int)]))
          else
            ((
              if (p0 == (33 : Int)) then
                some (p0 == (33 : Int))
              else
                some (p0 == (34 : Int))) : Option Bool).bind (fun v55_0 => 
            if v55_0 then
              some (true, (some [(2 : Int)]))
            else
              ((
                if (p0 == (35 : Int)) then
                  some (p0 == (35 : Int))
                else
                  some (p0 == (36 : Int))) : Option Bool).bind (fun v59_0 => 
              if v59_0 then
                some (false, (some [(3 : Int), (2 : Int)]))
              else
                ((
                  if (p0 == (50 : Int)) then
                    some (p0 == (50 : Int))
                  else
                    if (p0 == (51 : Int)) then
                      some (p0 == (51 : Int))
                    else
                      some (p0 == (55 : Int))) : Option Bool).bind (fun v63_0 => 
                if v63_0 then
                  some (true, (some [(1 : Int)]))
                else
                  ((
                    if (p0 == (57 : Int)) then
                      some (p0 == (57 : Int))
                    else
                      some (p0 == (58 : Int))) : Option Bool).bind (fun v68_0 => 
                  if v68_0 then
                    some (false, (some [(3 : Int), (3 : Int)]))
                  else
                    some (false, none))))))))))
set_option maxHeartbeats 4000000 in
theorem tree_shape_ok {K : Nat} {p0 : Int} {r : Bool × (Option (List Int))} (h : tree_shape K p0 = some r) : Cn Try.prog 77 [.d (.val (.int .i64 p0))] (.tup [.d (.val (.bool r.1)), nilV i64V r.2]) := by
  refine Cn.ofA mixed Try.func77 rfl Try.call77 Try.ntmps77 Try.results77 (by simp) (by simp only [go_sem, Nat.reduceEqDiff, Nat.reduceAdd, Nat.reduceSub, Nat.reduceMul, Nat.reduceLeDiff, Nat.reduceLT, Nat.reduceBEq, reduceIte]) fun hfit => ?_
  unfold tree_shape at h
  refine AW.cut [] [(0, .d (.val (.int .i64 p0)))] [] (by simp only [go_sem, Nat.reduceEqDiff, Nat.reduceAdd, Nat.reduceSub, Nat.reduceMul, Nat.reduceLeDiff, Nat.reduceLT, Nat.reduceBEq, reduceIte]) ?_
  refine AW.one ?_
  refine AW.reg mixed (by kernel_rfl) ?_
  try simp only [go_sem, Nat.reduceEqDiff, Nat.reduceAdd, Nat.reduceSub, Nat.reduceMul, Nat.reduceLeDiff, Nat.reduceLT, Nat.reduceBEq, reduceIte]
  refine AW.cut [] [(0, .d (.val (.int .i64 p0)))] [] (by simp only [go_sem, Nat.reduceEqDiff, Nat.reduceAdd, Nat.reduceSub, Nat.reduceMul, Nat.reduceLeDiff, Nat.reduceLT, Nat.reduceBEq, reduceIte]) ?_
  refine AW.one ?_
  refine AW.one ?_
  refine AW.reg mixed (by kernel_rfl) ?_
  try simp only [go_sem, Nat.reduceEqDiff, Nat.reduceAdd, Nat.reduceSub, Nat.reduceMul, Nat.reduceLeDiff, Nat.reduceLT, Nat.reduceBEq, reduceIte]
  refine AW.cut [] [(0, .d (.val (.int .i64 p0))), (4, .d (.val (.int .i64 p0)))] [] (by simp only [go_sem, Nat.reduceEqDiff, Nat.reduceAdd, Nat.reduceSub, Nat.reduceMul, Nat.reduceLeDiff, Nat.reduceLT, Nat.reduceBEq, reduceIte]) ?_
  refine AW.block ?_
  refine AW.one ?_
  obtain ⟨oJ2, h, hJ2⟩ := obind h
  refine AW.join (S := Bool) (fun v1_0 => [(0, .d (.val (.int .i64 p0))), (4, .d (.val (.int .i64 p0))), (5, .d (.val (.bool v1_0)))]) (fun v1_0 => []) (fun x => x = oJ2) ?_ ?_
  · skip
    refine AW.one ?_
    refine AW.reg mixed (by kernel_rfl) ?_
    try simp only [go_sem, Nat.reduceEqDiff, Nat.reduceAdd, Nat.reduceSub, Nat.reduceMul, Nat.reduceLeDiff, Nat.reduceLT, Nat.reduceBEq, reduceIte]
    refine AW.cut [] [(0, .d (.val (.int .i64 p0))), (4, .d (.val (.int .i64 p0))), (5, .d (.val (.bool (p0 == (1 : Int)))))] [] (by simp only [go_sem, Nat.reduceEqDiff, Nat.reduceAdd, Nat.reduceSub, Nat.reduceMul, Nat.reduceLeDiff, Nat.reduceLT, Nat.reduceBEq, reduceIte]) ?_
    refine AW.test (t := (p0 == (1 : Int))) (by simp only [go_sem, Nat.reduceEqDiff, Nat.reduceAdd, Nat.reduceSub, Nat.reduceMul, Nat.reduceLeDiff, Nat.reduceLT, Nat.reduceBEq, reduceIte]) (fun hb3 => ?_) (fun hb3 => ?_)
    · have h := ifT hb3 h
      refine AW.skip ?_
      try simp only [go_sem, Nat.reduceEqDiff, Nat.reduceAdd, Nat.reduceSub, Nat.reduceMul, Nat.reduceLeDiff, Nat.reduceLT, Nat.reduceBEq, reduceIte]
      refine JoinQ.mk (p0 == (1 : Int)) [] (Option.some.inj h) (by simp only [go_sem, Nat.reduceEqDiff, Nat.reduceAdd, Nat.reduceSub, Nat.reduceMul, Nat.reduceLeDiff, Nat.reduceLT, Nat.reduceBEq, reduceIte])
    · have h := ifF hb3 h
      refine AW.one ?_
      refine AW.reg mixed (by kernel_rfl) ?_
      try simp only [go_sem, Nat.reduceEqDiff, Nat.reduceAdd, Nat.reduceSub, Nat.reduceMul, Nat.reduceLeDiff, Nat.reduceLT, Nat.reduceBEq, reduceIte]
      refine AW.cut [] [(0, .d (.val (.int .i64 p0))), (4, .d (.val (.int .i64 p0))), (5, .d (.val (.bool (p0 == (13 : Int)))))] [] (by simp only [go_sem, Nat.reduceEqDiff, Nat.reduceAdd, Nat.reduceSub, Nat.reduceMul, Nat.reduceLeDiff, Nat.reduceLT, Nat.reduceBEq, reduceIte]) ?_
      refine AW.test (t := (p0 == (13 : Int))) (by simp only [go_sem, Nat.reduceEqDiff, Nat.reduceAdd, Nat.reduceSub, Nat.reduceMul, Nat.reduceLeDiff, Nat.reduceLT, Nat.reduceBEq, reduceIte]) (fun hb4 => ?_) (fun hb4 => ?_)
      · have h := ifT hb4 h
        refine AW.skip ?_
        try simp only [go_sem, Nat.reduceEqDiff, Nat.reduceAdd, Nat.reduceSub, Nat.reduceMul, Nat.reduceLeDiff, Nat.reduceLT, Nat.reduceBEq, reduceIte]
        refine JoinQ.mk (p0 == (13 : Int)) [] (Option.some.inj h) (by simp only [go_sem, Nat.reduceEqDiff, Nat.reduceAdd, Nat.reduceSub, Nat.reduceMul, Nat.reduceLeDiff, Nat.reduceLT, Nat.reduceBEq, reduceIte])
      · have h := ifF hb4 h
        refine AW.one ?_
        refine AW.reg mixed (by kernel_rfl) ?_
        try simp only [go_sem, Nat.reduceEqDiff, Nat.reduceAdd, Nat.reduceSub, Nat.reduceMul, Nat.reduceLeDiff, Nat.reduceLT, Nat.reduceBEq, reduceIte]
        refine AW.cut [] [(0, .d (.val (.int .i64 p0))), (4, .d (.val (.int .i64 p0))), (5, .d (.val (.bool (p0 == (20 : Int)))))] [] (by simp only [go_sem, Nat.reduceEqDiff, Nat.reduceAdd, Nat.reduceSub, Nat.reduceMul, Nat.reduceLeDiff, Nat.reduceLT, Nat.reduceBEq, reduceIte]) ?_
        refine AW.test (t := (p0 == (20 : Int))) (by simp only [go_sem, Nat.reduceEqDiff, Nat.reduceAdd, Nat.reduceSub, Nat.reduceMul, Nat.reduceLeDiff, Nat.reduceLT, Nat.reduceBEq, reduceIte]) (fun hb5 => ?_) (fun hb5 => ?_)
        · have h := ifT hb5 h
          refine AW.skip ?_
          try simp only [go_sem, Nat.reduceEqDiff, Nat.reduceAdd, Nat.reduceSub, Nat.reduceMul, Nat.reduceLeDiff, Nat.reduceLT, Nat.reduceBEq, reduceIte]
          refine JoinQ.mk (p0 == (20 : Int)) [] (Option.some.inj h) (by simp only [go_sem, Nat.reduceEqDiff, Nat.reduceAdd, Nat.reduceSub, Nat.reduceMul, Nat.reduceLeDiff, Nat.reduceLT, Nat.reduceBEq, reduceIte])
        · have h := ifF hb5 h
          refine AW.reg mixed (by kernel_rfl) ?_
          try simp only [go_sem, Nat.reduceEqDiff, Nat.reduceAdd, Nat.reduceSub, Nat.reduceMul, Nat.reduceLeDiff, Nat.reduceLT, Nat.reduceBEq, reduceIte]
          refine JoinQ.mk (p0 == (21 : Int)) [] (Option.some.inj h) (by simp only [go_sem, Nat.reduceEqDiff, Nat.reduceAdd, Nat.reduceSub, Nat.reduceMul, Nat.reduceLeDiff, Nat.reduceLT, Nat.reduceBEq, reduceIte])
  · rintro v1_0 rfl
    have h := hJ2
    try dsimp only [Out.fin] at h
    simp only [go_sem, Nat.reduceEqDiff, Nat.reduceAdd, Nat.reduceSub, Nat.reduceMul, Nat.reduceLeDiff, Nat.reduceLT, Nat.reduceBEq, reduceIte]
    refine AW.test (t := v1_0) (by simp only [go_sem, Nat.reduceEqDiff, Nat.reduceAdd, Nat.reduceSub, Nat.reduceMul, Nat.reduceLeDiff, Nat.reduceLT, Nat.reduceBEq, reduceIte]) (fun hb6 => ?_) (fun hb6 => ?_)
    · have h := ifT hb6 h
      refine AW.one ?_
      refine AW.reg mixed (by kernel_rfl) ?_
      try simp only [go_sem, Nat.reduceEqDiff, Nat.reduceAdd, Nat.reduceSub, Nat.reduceMul, Nat.reduceLeDiff, Nat.reduceLT, Nat.reduceBEq, reduceIte]
      refine AW.ret ?_
      obtain rfl := Option.some.inj h
      simp only [go_sem, Nat.reduceEqDiff, Nat.reduceAdd, Nat.reduceSub, Nat.reduceMul, Nat.reduceLeDiff, Nat.reduceLT, Nat.reduceBEq, reduceIte]
      exact .same _
    · have h := ifF hb6 h
      refine AW.one ?_
      obtain ⟨oJ8, h, hJ8⟩ := obind h
      refine AW.join (S := Bool) (fun v7_0 => [(0, .d (.val (.int .i64 p0))), (4, .d (.val (.int .i64 p0))), (10, .d (.val (.bool v7_0)))]) (fun v7_0 => []) (fun x => x = oJ8) ?_ ?_
      · skip
        refine AW.one ?_
        refine AW.reg mixed (by kernel_rfl) ?_
        try simp only [go_sem, Nat.reduceEqDiff, Nat.reduceAdd, Nat.reduceSub, Nat.reduceMul, Nat.reduceLeDiff, Nat.reduceLT, Nat.reduceBEq, reduceIte]
        refine AW.cut [] [(0, .d (.val (.int .i64 p0))), (4, .d (.val (.int .i64 p0))), (10, .d (.val (.bool (p0 == (2 : Int)))))] [] (by simp only [go_sem, Nat.reduceEqDiff, Nat.reduceAdd, Nat.reduceSub, Nat.reduceMul, Nat.reduceLeDiff, Nat.reduceLT, Nat.reduceBEq, reduceIte]) ?_
        refine AW.test (t := (p0 == (2 : Int))) (by simp only [go_sem, Nat.reduceEqDiff, Nat.reduceAdd, Nat.reduceSub, Nat.reduceMul, Nat.reduceLeDiff, Nat.reduceLT, Nat.reduceBEq, reduceIte]) (fun hb9 => ?_) (fun hb9 => ?_)
        · have h := ifT hb9 h
          refine AW.skip ?_
          try simp only [go_sem, Nat.reduceEqDiff, Nat.reduceAdd, Nat.reduceSub, Nat.reduceMul, Nat.reduceLeDiff, Nat.reduceLT, Nat.reduceBEq, reduceIte]
          refine JoinQ.mk (p0 == (2 : Int)) [] (Option.some.inj h) (by simp only [go_sem, Nat.reduceEqDiff, Nat.reduceAdd, Nat.reduceSub, Nat.reduceMul, Nat.reduceLeDiff, Nat.reduceLT, Nat.reduceBEq, reduceIte])
        · have h := ifF hb9 h
          refine AW.one ?_
          refine AW.reg mixed (by kernel_rfl) ?_
          try simp only [go_sem, Nat.reduceEqDiff, Nat.reduceAdd, Nat.reduceSub, Nat.reduceMul, Nat.reduceLeDiff, Nat.reduceLT, Nat.reduceBEq, reduceIte]
          refine AW.cut [] [(0, .d (.val (.int .i64 p0))), (4, .d (.val (.int .i64 p0))), (10, .d (.val (.bool (p0 == (3 : Int)))))] [] (by simp only [go_sem, Nat.reduceEqDiff, Nat.reduceAdd, Nat.reduceSub, Nat.reduceMul, Nat.reduceLeDiff, Nat.reduceLT, Nat.reduceBEq, reduceIte]) ?_
          refine AW.test (t := (p0 == (3 : Int))) (by simp only [go_sem, Nat.reduceEqDiff, Nat.reduceAdd, Nat.reduceSub, Nat.reduceMul, Nat.reduceLeDiff, Nat.reduceLT, Nat.reduceBEq, reduceIte]) (fun hb10 => ?_) (fun hb10 => ?_)
          · have h := ifT hb10 h
            refine AW.skip ?_
            try simp only [go_sem, Nat.reduceEqDiff, Nat.reduceAdd, Nat.reduceSub, Nat.reduceMul, Nat.reduceLeDiff, Nat.reduceLT, Nat.reduceBEq, reduceIte]
            refine JoinQ.mk (p0 == (3 : Int)) [] (Option.some.inj h) (by simp only [go_sem, Nat.reduceEqDiff, Nat.reduceAdd, Nat.reduceSub, Nat.reduceMul, Nat.reduceLeDiff, Nat.reduceLT, Nat.reduceBEq, reduceIte])
          · have h := ifF hb10 h
            refine AW.one ?_
            refine AW.reg mixed (by kernel_rfl) ?_
            try simp only [go_sem, Nat.reduceEqDiff, Nat.reduceAdd, Nat.reduceSub, Nat.reduceMul, Nat.reduceLeDiff, Nat.reduceLT, Nat.reduceBEq, reduceIte]
            refine AW.cut [] [(0, .d (.val (.int .i64 p0))), (4, .d (.val (.int .i64 p0))), (10, .d (.val (.bool (p0 == (11 : Int)))))] [] (by simp only [go_sem, Nat.reduceEqDiff, Nat.reduceAdd, Nat.reduceSub, Nat.reduceMul, Nat.reduceLeDiff, Nat.reduceLT, Nat.reduceBEq, reduceIte]) ?_
            refine AW.test (t := (p0 == (11 : Int))) (by simp only [go_sem, Nat.reduceEqDiff, Nat.reduceAdd, Nat.reduceSub, Nat.reduceMul, Nat.reduceLeDiff, Nat.reduceLT, Nat.reduceBEq, reduceIte]) (fun hb11 => ?_) (fun hb11 => ?_)
            · have h := ifT hb11 h
              refine AW.skip ?_
              try simp only [go_sem, Nat.reduceEqDiff, Nat.reduceAdd, Nat.reduceSub, Nat.reduceMul, Nat.reduceLeDiff, Nat.reduceLT, Nat.reduceBEq, reduceIte]
              refine JoinQ.mk (p0 == (11 : Int)) [] (Option.some.inj h) (by simp only [go_sem, Nat.reduceEqDiff, Nat.reduceAdd, Nat.reduceSub, Nat.reduceMul, Nat.reduceLeDiff, Nat.reduceLT, Nat.reduceBEq, reduceIte])
            · have h := ifF hb11 h
              refine AW.one ?_
              refine AW.reg mixed (by kernel_rfl) ?_
              try simp only [go_sem, Nat.reduceEqDiff, Nat.reduceAdd, Nat.reduceSub, Nat.reduceMul, Nat.reduceLeDiff, Nat.reduceLT, Nat.reduceBEq, reduceIte]
              refine AW.cut [] [(0, .d (.val (.int .i64 p0))), (4, .d (.val (.int .i64 p0))), (10, .d (.val (.bool (p0 == (38 : Int)))))] [] (by simp only [go_sem, Nat.reduceEqDiff, Nat.reduceAdd, Nat.reduceSub, Nat.reduceMul, Nat.reduceLeDiff, Nat.reduceLT, Nat.reduceBEq, reduceIte]) ?_
              refine AW.test (t := (p0 == (38 : Int))) (by simp only [go_sem, Nat.reduceEqDiff, Nat.reduceAdd, Nat.reduceSub, Nat.reduceMul, Nat.reduceLeDiff, Nat.reduceLT, Nat.reduceBEq, reduceIte]) (fun hb12 => ?_) (fun hb12 => ?_)
              · have h := ifT hb12 h
                refine AW.skip ?_
                try simp only [go_sem, Nat.reduceEqDiff, Nat.reduceAdd, Nat.reduceSub, Nat.reduceMul, Nat.reduceLeDiff, Nat.reduceLT, Nat.reduceBEq, reduceIte]
                refine JoinQ.mk (p0 == (38 : Int)) [] (Option.some.inj h) (by simp only [go_sem, Nat.reduceEqDiff, Nat.reduceAdd, Nat.reduceSub, Nat.reduceMul, Nat.reduceLeDiff, Nat.reduceLT, Nat.reduceBEq, reduceIte])
              · have h := ifF hb12 h
                refine AW.one ?_
                refine AW.reg mixed (by kernel_rfl) ?_
                try simp only [go_sem, Nat.reduceEqDiff, Nat.reduceAdd, Nat.reduceSub, Nat.reduceMul, Nat.reduceLeDiff, Nat.reduceLT, Nat.reduceBEq, reduceIte]
                refine AW.cut [] [(0, .d (.val (.int .i64 p0))), (4, .d (.val (.int .i64 p0))), (10, .d (.val (.bool (p0 == (52 : Int)))))] [] (by simp only [go_sem, Nat.reduceEqDiff, Nat.reduceAdd, Nat.reduceSub, Nat.reduceMul, Nat.reduceLeDiff, Nat.reduceLT, Nat.reduceBEq, reduceIte]) ?_
                refine AW.test (t := (p0 == (52 : Int))) (by simp only [go_sem, Nat.reduceEqDiff, Nat.reduceAdd, Nat.reduceSub, Nat.reduceMul, Nat.reduceLeDiff, Nat.reduceLT, Nat.reduceBEq, reduceIte]) (fun hb13 => ?_) (fun hb13 => ?_)
                · have h := ifT hb13 h
                  refine AW.skip ?_
                  try simp only [go_sem, Nat.reduceEqDiff, Nat.reduceAdd, Nat.reduceSub, Nat.reduceMul, Nat.reduceLeDiff, Nat.reduceLT, Nat.reduceBEq, reduceIte]
                  refine JoinQ.mk (p0 == (52 : Int)) [] (Option.some.inj h) (by simp only [go_sem, Nat.reduceEqDiff, Nat.reduceAdd, Nat.reduceSub, Nat.reduceMul, Nat.reduceLeDiff, Nat.reduceLT, Nat.reduceBEq, reduceIte])
                · have h := ifF hb13 h
                  refine AW.one ?_
                  refine AW.reg mixed (by kernel_rfl) ?_
                  try simp only [go_sem, Nat.reduceEqDiff, Nat.reduceAdd, Nat.reduceSub, Nat.reduceMul, Nat.reduceLeDiff, Nat.reduceLT, Nat.reduceBEq, reduceIte]
                  refine AW.cut [] [(0, .d (.val (.int .i64 p0))), (4, .d (.val (.int .i64 p0))), (10, .d (.val (.bool (p0 == (56 : Int)))))] [] (by simp only [go_sem, Nat.reduceEqDiff, Nat.reduceAdd, Nat.reduceSub, Nat.reduceMul, Nat.reduceLeDiff, Nat.reduceLT, Nat.reduceBEq, reduceIte]) ?_
                  refine AW.test (t := (p0 == (56 : Int))) (by simp only [go_sem, Nat.reduceEqDiff, Nat.reduceAdd, Nat.reduceSub, Nat.reduceMul, Nat.reduceLeDiff, Nat.reduceLT, Nat.reduceBEq, reduceIte]) (fun hb14 => ?_) (fun hb14 => ?_)
                  · have h := ifT hb14 h
                    refine AW.skip ?_
                    try simp only [go_sem, Nat.reduceEqDiff, Nat.reduceAdd, Nat.reduceSub, Nat.reduceMul, Nat.reduceLeDiff, Nat.reduceLT, Nat.reduceBEq, reduceIte]
                    refine JoinQ.mk (p0 == (56 : Int)) [] (Option.some.inj h) (by simp only [go_sem, Nat.reduceEqDiff, Nat.reduceAdd, Nat.reduceSub, Nat.reduceMul, Nat.reduceLeDiff, Nat.reduceLT, Nat.reduceBEq, reduceIte])
                  · have h := ifF hb14 h
                    refine AW.one ?_
                    refine AW.reg mixed (by kernel_rfl) ?_
                    try simp only [go_sem, Nat.reduceEqDiff, Nat.reduceAdd, Nat.reduceSub, Nat.reduceMul, Nat.reduceLeDiff, Nat.reduceLT, Nat.reduceBEq, reduceIte]
                    refine AW.cut [] [(0, .d (.val (.int .i64 p0))), (4, .d (.val (.int .i64 p0))), (10, .d (.val (.bool (p0 == (61 : Int)))))] [] (by simp only [go_sem, Nat.reduceEqDiff, Nat.reduceAdd, Nat.reduceSub, Nat.reduceMul, Nat.reduceLeDiff, Nat.reduceLT, Nat.reduceBEq, reduceIte]) ?_
                    refine AW.test (t := (p0 == (61 : Int))) (by simp only [go_sem, Nat.reduceEqDiff, Nat.reduceAdd, Nat.reduceSub, Nat.reduceMul, Nat.reduceLeDiff, Nat.reduceLT, Nat.reduceBEq, reduceIte]) (fun hb15 => ?_) (fun hb15 => ?_)
                    · have h := ifT hb15 h
                      refine AW.skip ?_
                      try simp only [go_sem, Nat.reduceEqDiff, Nat.reduceAdd, Nat.reduceSub, Nat.reduceMul, Nat.reduceLeDiff, Nat.reduceLT, Nat.reduceBEq, reduceIte]
                      refine JoinQ.mk (p0 == (61 : Int)) [] (Option.some.inj h) (by simp only [go_sem, Nat.reduceEqDiff, Nat.reduceAdd, Nat.reduceSub, Nat.reduceMul, Nat.reduceLeDiff, Nat.reduceLT, Nat.reduceBEq, reduceIte])
                    · have h := ifF hb15 h
                      refine AW.reg mixed (by kernel_rfl) ?_
                      try simp only [go_sem, Nat.reduceEqDiff, Nat.reduceAdd, Nat.reduceSub, Nat.reduceMul, Nat.reduceLeDiff, Nat.reduceLT, Nat.reduceBEq, reduceIte]
                      refine JoinQ.mk (p0 == (62 : Int)) [] (Option.some.inj h) (by simp only [go_sem, Nat.reduceEqDiff, Nat.reduceAdd, Nat.reduceSub, Nat.reduceMul, Nat.reduceLeDiff, Nat.reduceLT, Nat.reduceBEq, reduceIte])
      · rintro v7_0 rfl
        have h := hJ8
        try dsimp only [Out.fin] at h
        simp only [go_sem, Nat.reduceEqDiff, Nat.reduceAdd, Nat.reduceSub, Nat.reduceMul, Nat.reduceLeDiff, Nat.reduceLT, Nat.reduceBEq, reduceIte]
        refine AW.test (t := v7_0) (by simp only [go_sem, Nat.reduceEqDiff, Nat.reduceAdd, Nat.reduceSub, Nat.reduceMul, Nat.reduceLeDiff, Nat.reduceLT, Nat.reduceBEq, reduceIte]) (fun hb16 => ?_) (fun hb16 => ?_)
        · have h := ifT hb16 h
          refine AW.one ?_
          refine AW.reg mixed (by kernel_rfl) ?_
          try simp only [go_sem, Nat.reduceEqDiff, Nat.reduceAdd, Nat.reduceSub, Nat.reduceMul, Nat.reduceLeDiff, Nat.reduceLT, Nat.reduceBEq, reduceIte]
          refine AW.ret ?_
          obtain rfl := Option.some.inj h
          simp only [go_sem, Nat.reduceEqDiff, Nat.reduceAdd, Nat.reduceSub, Nat.reduceMul, Nat.reduceLeDiff, Nat.reduceLT, Nat.reduceBEq, reduceIte]
          exact .same _
        · have h := ifF hb16 h
          refine AW.one ?_
          obtain ⟨oJ18, h, hJ18⟩ := obind h
          refine AW.join (S := Bool) (fun v17_0 => [(0, .d (.val (.int .i64 p0))), (4, .d (.val (.int .i64 p0))), (19, .d (.val (.bool v17_0)))]) (fun v17_0 => []) (fun x => x = oJ18) ?_ ?_
          · skip
            refine AW.one ?_
            refine AW.reg mixed (by kernel_rfl) ?_
            try simp only [go_sem, Nat.reduceEqDiff, Nat.reduceAdd, Nat.reduceSub, Nat.reduceMul, Nat.reduceLeDiff, Nat.reduceLT, Nat.reduceBEq, reduceIte]
            refine AW.cut [] [(0, .d (.val (.int .i64 p0))), (4, .d (.val (.int .i64 p0))), (19, .d (.val (.bool (p0 == (4 : Int)))))] [] (by simp only [go_sem, Nat.reduceEqDiff, Nat.reduceAdd, Nat.reduceSub, Nat.reduceMul, Nat.reduceLeDiff, Nat.reduceLT, Nat.reduceBEq, reduceIte]) ?_
            refine AW.test (t := (p0 == (4 : Int))) (by simp only [go_sem, Nat.reduceEqDiff, Nat.reduceAdd, Nat.reduceSub, Nat.reduceMul, Nat.reduceLeDiff, Nat.reduceLT, Nat.reduceBEq, reduceIte]) (fun hb19 => ?_) (fun hb19 => ?_)
            · have h := ifT hb19 h
              refine AW.skip ?_
              try simp only [go_sem, Nat.reduceEqDiff, Nat.reduceAdd, Nat.reduceSub, Nat.reduceMul, Nat.reduceLeDiff, Nat.reduceLT, Nat.reduceBEq, reduceIte]
              refine JoinQ.mk (p0 == (4 : Int)) [] (Option.some.inj h) (by simp only [go_sem, Nat.reduceEqDiff, Nat.reduceAdd, Nat.reduceSub, Nat.reduceMul, Nat.reduceLeDiff, Nat.reduceLT, Nat.reduceBEq, reduceIte])
            · have h := ifF hb19 h
              refine AW.one ?_
              refine AW.reg mixed (by kernel_rfl) ?_
              try simp only [go_sem, Nat.reduceEqDiff, Nat.reduceAdd, Nat.reduceSub, Nat.reduceMul, Nat.reduceLeDiff, Nat.reduceLT, Nat.reduceBEq, reduceIte]
              refine AW.cut [] [(0, .d (.val (.int .i64 p0))), (4, .d (.val (.int .i64 p0))), (19, .d (.val (.bool (p0 == (12 : Int)))))] [] (by simp only [go_sem, Nat.reduceEqDiff, Nat.reduceAdd, Nat.reduceSub, Nat.reduceMul, Nat.reduceLeDiff, Nat.reduceLT, Nat.reduceBEq, reduceIte]) ?_
              refine AW.test (t := (p0 == (12 : Int))) (by simp only [go_sem, Nat.reduceEqDiff, Nat.reduceAdd, Nat.reduceSub, Nat.reduceMul, Nat.reduceLeDiff, Nat.reduceLT, Nat.reduceBEq, reduceIte]) (fun hb20 => ?_) (fun hb20 => ?_)
              · have h := ifT hb20 h
                refine AW.skip ?_
                try simp only [go_sem, Nat.reduceEqDiff, Nat.reduceAdd, Nat.reduceSub, Nat.reduceMul, Nat.reduceLeDiff, Nat.reduceLT, Nat.reduceBEq, reduceIte]
                refine JoinQ.mk (p0 == (12 : Int)) [] (Option.some.inj h) (by simp only [go_sem, Nat.reduceEqDiff, Nat.reduceAdd, Nat.reduceSub, Nat.reduceMul, Nat.reduceLeDiff, Nat.reduceLT, Nat.reduceBEq, reduceIte])
              · have h := ifF hb20 h
                refine AW.one ?_
                refine AW.reg mixed (by kernel_rfl) ?_
                try simp only [go_sem, Nat.reduceEqDiff, Nat.reduceAdd, Nat.reduceSub, Nat.reduceMul, Nat.reduceLeDiff, Nat.reduceLT, Nat.reduceBEq, reduceIte]
                refine AW.cut [] [(0, .d (.val (.int .i64 p0))), (4, .d (.val (.int .i64 p0))), (19, .d (.val (.bool (p0 == (53 : Int)))))] [] (by simp only [go_sem, Nat.reduceEqDiff, Nat.reduceAdd, Nat.reduceSub, Nat.reduceMul, Nat.reduceLeDiff, Nat.reduceLT, Nat.reduceBEq, reduceIte]) ?_
                refine AW.test (t := (p0 == (53 : Int))) (by simp only [go_sem, Nat.reduceEqDiff, Nat.reduceAdd, Nat.reduceSub, Nat.reduceMul, Nat.reduceLeDiff, Nat.reduceLT, Nat.reduceBEq, reduceIte]) (fun hb21 => ?_) (fun hb21 => ?_)
                · have h := ifT hb21 h
                  refine AW.skip ?_
                  try simp only [go_sem, Nat.reduceEqDiff, Nat.reduceAdd, Nat.reduceSub, Nat.reduceMul, Nat.reduceLeDiff, Nat.reduceLT, Nat.reduceBEq, reduceIte]
                  refine JoinQ.mk (p0 == (53 : Int)) [] (Option.some.inj h) (by simp only [go_sem, Nat.reduceEqDiff, Nat.reduceAdd, Nat.reduceSub, Nat.reduceMul, Nat.reduceLeDiff, Nat.reduceLT, Nat.reduceBEq, reduceIte])
                · have h := ifF hb21 h
                  refine AW.one ?_
                  refine AW.reg mixed (by kernel_rfl) ?_
                  try simp only [go_sem, Nat.reduceEqDiff, Nat.reduceAdd, Nat.reduceSub, Nat.reduceMul, Nat.reduceLeDiff, Nat.reduceLT, Nat.reduceBEq, reduceIte]
                  refine AW.cut [] [(0, .d (.val (.int .i64 p0))), (4, .d (.val (.int .i64 p0))), (19, .d (.val (.bool (p0 == (28 : Int)))))] [] (by simp only [go_sem, Nat.reduceEqDiff, Nat.reduceAdd, Nat.reduceSub, Nat.reduceMul, Nat.reduceLeDiff, Nat.reduceLT, Nat.reduceBEq, reduceIte]) ?_
                  refine AW.test (t := (p0 == (28 : Int))) (by simp only [go_sem, Nat.reduceEqDiff, Nat.reduceAdd, Nat.reduceSub, Nat.reduceMul, Nat.reduceLeDiff, Nat.reduceLT, Nat.reduceBEq, reduceIte]) (fun hb22 => ?_) (fun hb22 => ?_)
                  · have h := ifT hb22 h
                    refine AW.skip ?_
                    try simp only [go_sem, Nat.reduceEqDiff, Nat.reduceAdd, Nat.reduceSub, Nat.reduceMul, Nat.reduceLeDiff, Nat.reduceLT, Nat.reduceBEq, reduceIte]
                    refine JoinQ.mk (p0 == (28 : Int)) [] (Option.some.inj h) (by simp only [go_sem, Nat.reduceEqDiff, Nat.reduceAdd, Nat.reduceSub, Nat.reduceMul, Nat.reduceLeDiff, Nat.reduceLT, Nat.reduceBEq, reduceIte])
                  · have h := ifF hb22 h
                    refine AW.one ?_
                    refine AW.reg mixed (by kernel_rfl) ?_
                    try simp only [go_sem, Nat.reduceEqDiff, Nat.reduceAdd, Nat.reduceSub, Nat.reduceMul, Nat.reduceLeDiff, Nat.reduceLT, Nat.reduceBEq, reduceIte]
                    refine AW.cut [] [(0, .d (.val (.int .i64 p0))), (4, .d (.val (.int .i64 p0))), (19, .d (.val (.bool (p0 == (39 : Int)))))] [] (by simp only [go_sem, Nat.reduceEqDiff, Nat.reduceAdd, Nat.reduceSub, Nat.reduceMul, Nat.reduceLeDiff, Nat.reduceLT, Nat.reduceBEq, reduceIte]) ?_
                    refine AW.test (t := (p0 == (39 : Int))) (by simp only [go_sem, Nat.reduceEqDiff, Nat.reduceAdd, Nat.reduceSub, Nat.reduceMul, Nat.reduceLeDiff, Nat.reduceLT, Nat.reduceBEq, reduceIte]) (fun hb23 => ?_) (fun hb23 => ?_)
                    · have h := ifT hb23 h
                      refine AW.skip ?_
                      try simp only [go_sem, Nat.reduceEqDiff, Nat.reduceAdd, Nat.reduceSub, Nat.reduceMul, Nat.reduceLeDiff, Nat.reduceLT, Nat.reduceBEq, reduceIte]
                      refine JoinQ.mk (p0 == (39 : Int)) [] (Option.some.inj h) (by simp only [go_sem, Nat.reduceEqDiff, Nat.reduceAdd, Nat.reduceSub, Nat.reduceMul, Nat.reduceLeDiff, Nat.reduceLT, Nat.reduceBEq, reduceIte])
                    · have h := ifF hb23 h
                      refine AW.one ?_
                      refine AW.reg mixed (by kernel_rfl) ?_
                      try simp only [go_sem, Nat.reduceEqDiff, Nat.reduceAdd, Nat.reduceSub, Nat.reduceMul, Nat.reduceLeDiff, Nat.reduceLT, Nat.reduceBEq, reduceIte]
                      refine AW.cut [] [(0, .d (.val (.int .i64 p0))), (4, .d (.val (.int .i64 p0))), (19, .d (.val (.bool (p0 == (59 : Int)))))] [] (by simp only [go_sem, Nat.reduceEqDiff, Nat.reduceAdd, Nat.reduceSub, Nat.reduceMul, Nat.reduceLeDiff, Nat.reduceLT, Nat.reduceBEq, reduceIte]) ?_
                      refine AW.test (t := (p0 == (59 : Int))) (by simp only [go_sem, Nat.reduceEqDiff, Nat.reduceAdd, Nat.reduceSub, Nat.reduceMul, Nat.reduceLeDiff, Nat.reduceLT, Nat.reduceBEq, reduceIte]) (fun hb24 => ?_) (fun hb24 => ?_)
                      · have h := ifT hb24 h
                        refine AW.skip ?_
                        try simp only [go_sem, Nat.reduceEqDiff, Nat.reduceAdd, Nat.reduceSub, Nat.reduceMul, Nat.reduceLeDiff, Nat.reduceLT, Nat.reduceBEq, reduceIte]
                        refine JoinQ.mk (p0 == (59 : Int)) [] (Option.some.inj h) (by simp only [go_sem, Nat.reduceEqDiff, Nat.reduceAdd, Nat.reduceSub, Nat.reduceMul, Nat.reduceLeDiff, Nat.reduceLT, Nat.reduceBEq, reduceIte])
                      · have h := ifF hb24 h
                        refine AW.reg mixed (by kernel_rfl) ?_
                        try simp only [go_sem, Nat.reduceEqDiff, Nat.reduceAdd, Nat.reduceSub, Nat.reduceMul, Nat.reduceLeDiff, Nat.reduceLT, Nat.reduceBEq, reduceIte]
                        refine JoinQ.mk (p0 == (60 : Int)) [] (Option.some.inj h) (by simp only [go_sem, Nat.reduceEqDiff, Nat.reduceAdd, Nat.reduceSub, Nat.reduceMul, Nat.reduceLeDiff, Nat.reduceLT, Nat.reduceBEq, reduceIte])
          · rintro v17_0 rfl
            have h := hJ18
            try dsimp only [Out.fin] at h
            simp only [go_sem, Nat.reduceEqDiff, Nat.reduceAdd, Nat.reduceSub, Nat.reduceMul, Nat.reduceLeDiff, Nat.reduceLT, Nat.reduceBEq, reduceIte]
            refine AW.test (t := v17_0) (by simp only [go_sem, Nat.reduceEqDiff, Nat.reduceAdd, Nat.reduceSub, Nat.reduceMul, Nat.reduceLeDiff, Nat.reduceLT, Nat.reduceBEq, reduceIte]) (fun hb25 => ?_) (fun hb25 => ?_)
            · have h := ifT hb25 h
              refine AW.one ?_
              obtain ⟨oJ27, h, hJ27⟩ := obind h
              refine AW.join (S := Unit) (fun _ => []) (fun _ => []) (fun x => oJ27 = .go x) ?_ ?_
              · skip
                refine AW.one ?_
                refine AW.reg mixed (by kernel_rfl) ?_
                try simp only [go_sem, Nat.reduceEqDiff, Nat.reduceAdd, Nat.reduceSub, Nat.reduceMul, Nat.reduceLeDiff, Nat.reduceLT, Nat.reduceBEq, reduceIte]
                refine AW.cut [] [(27, .d (.val (.int .i64 p0)))] [] (by simp only [go_sem, Nat.reduceEqDiff, Nat.reduceAdd, Nat.reduceSub, Nat.reduceMul, Nat.reduceLeDiff, Nat.reduceLT, Nat.reduceBEq, reduceIte]) ?_
                refine AW.block ?_
                refine AW.one ?_
                obtain ⟨oJ29, h, hJ29⟩ := obind h
                refine AW.join (S := Bool) (fun v28_0 => [(27, .d (.val (.int .i64 p0))), (28, .d (.val (.bool v28_0)))]) (fun v28_0 => []) (fun x => x = oJ29) ?_ ?_
                · skip
                  refine AW.one ?_
                  refine AW.reg mixed (by kernel_rfl) ?_
                  try simp only [go_sem, Nat.reduceEqDiff, Nat.reduceAdd, Nat.reduceSub, Nat.reduceMul, Nat.reduceLeDiff, Nat.reduceLT, Nat.reduceBEq, reduceIte]
                  refine AW.cut [] [(27, .d (.val (.int .i64 p0))), (28, .d (.val (.bool (p0 == (4 : Int)))))] [] (by simp only [go_sem, Nat.reduceEqDiff, Nat.reduceAdd, Nat.reduceSub, Nat.reduceMul, Nat.reduceLeDiff, Nat.reduceLT, Nat.reduceBEq, reduceIte]) ?_
                  refine AW.test (t := (p0 == (4 : Int))) (by simp only [go_sem, Nat.reduceEqDiff, Nat.reduceAdd, Nat.reduceSub, Nat.reduceMul, Nat.reduceLeDiff, Nat.reduceLT, Nat.reduceBEq, reduceIte]) (fun hb30 => ?_) (fun hb30 => ?_)
                  · have h := ifT hb30 h
                    refine AW.skip ?_
                    try simp only [go_sem, Nat.reduceEqDiff, Nat.reduceAdd, Nat.reduceSub, Nat.reduceMul, Nat.reduceLeDiff, Nat.reduceLT, Nat.reduceBEq, reduceIte]
                    refine JoinQ.mk (p0 == (4 : Int)) [] (Option.some.inj h) (by simp only [go_sem, Nat.reduceEqDiff, Nat.reduceAdd, Nat.reduceSub, Nat.reduceMul, Nat.reduceLeDiff, Nat.reduceLT, Nat.reduceBEq, reduceIte])
                  · have h := ifF hb30 h
                    refine AW.reg mixed (by kernel_rfl) ?_
                    try simp only [go_sem, Nat.reduceEqDiff, Nat.reduceAdd, Nat.reduceSub, Nat.reduceMul, Nat.reduceLeDiff, Nat.reduceLT, Nat.reduceBEq, reduceIte]
                    refine JoinQ.mk (p0 == (12 : Int)) [] (Option.some.inj h) (by simp only [go_sem, Nat.reduceEqDiff, Nat.reduceAdd, Nat.reduceSub, Nat.reduceMul, Nat.reduceLeDiff, Nat.reduceLT, Nat.reduceBEq, reduceIte])
                · rintro v28_0 rfl
                  have h := hJ29
                  try dsimp only [Out.fin] at h
                  simp only [go_sem, Nat.reduceEqDiff, Nat.reduceAdd, Nat.reduceSub, Nat.reduceMul, Nat.reduceLeDiff, Nat.reduceLT, Nat.reduceBEq, reduceIte]
                  refine AW.test (t := v28_0) (by simp only [go_sem, Nat.reduceEqDiff, Nat.reduceAdd, Nat.reduceSub, Nat.reduceMul, Nat.reduceLeDiff, Nat.reduceLT, Nat.reduceBEq, reduceIte]) (fun hb31 => ?_) (fun hb31 => ?_)
                  · have h := ifT hb31 h
                    refine AW.one ?_
                    refine AW.reg mixed (by kernel_rfl) ?_
                    try simp only [go_sem, Nat.reduceEqDiff, Nat.reduceAdd, Nat.reduceSub, Nat.reduceMul, Nat.reduceLeDiff, Nat.reduceLT, Nat.reduceBEq, reduceIte]
                    refine AW.ret ?_
                    obtain ⟨_, h, ho⟩ := outM_some h
                    rw [ho, Out.fin_out] at hJ27
                    have h := h.trans hJ27
                    obtain rfl := Option.some.inj h
                    simp only [go_sem, Nat.reduceEqDiff, Nat.reduceAdd, Nat.reduceSub, Nat.reduceMul, Nat.reduceLeDiff, Nat.reduceLT, Nat.reduceBEq, reduceIte]
                    exact .same _
                  · have h := ifF hb31 h
                    refine AW.one ?_
                    obtain ⟨oJ33, h, hJ33⟩ := obind h
                    refine AW.join (S := Bool) (fun v32_0 => [(32, .d (.val (.bool v32_0)))]) (fun v32_0 => []) (fun x => x = oJ33) ?_ ?_
                    · skip
                      refine AW.one ?_
                      refine AW.reg mixed (by kernel_rfl) ?_
                      try simp only [go_sem, Nat.reduceEqDiff, Nat.reduceAdd, Nat.reduceSub, Nat.reduceMul, Nat.reduceLeDiff, Nat.reduceLT, Nat.reduceBEq, reduceIte]
                      refine AW.cut [] [(27, .d (.val (.int .i64 p0))), (32, .d (.val (.bool (p0 == (59 : Int)))))] [] (by simp only [go_sem, Nat.reduceEqDiff, Nat.reduceAdd, Nat.reduceSub, Nat.reduceMul, Nat.reduceLeDiff, Nat.reduceLT, Nat.reduceBEq, reduceIte]) ?_
                      refine AW.test (t := (p0 == (59 : Int))) (by simp only [go_sem, Nat.reduceEqDiff, Nat.reduceAdd, Nat.reduceSub, Nat.reduceMul, Nat.reduceLeDiff, Nat.reduceLT, Nat.reduceBEq, reduceIte]) (fun hb34 => ?_) (fun hb34 => ?_)
                      · have h := ifT hb34 h
                        refine AW.skip ?_
                        try simp only [go_sem, Nat.reduceEqDiff, Nat.reduceAdd, Nat.reduceSub, Nat.reduceMul, Nat.reduceLeDiff, Nat.reduceLT, Nat.reduceBEq, reduceIte]
                        refine JoinQ.mk (p0 == (59 : Int)) [] (Option.some.inj h) (by simp only [go_sem, Nat.reduceEqDiff, Nat.reduceAdd, Nat.reduceSub, Nat.reduceMul, Nat.reduceLeDiff, Nat.reduceLT, Nat.reduceBEq, reduceIte])
                      · have h := ifF hb34 h
                        refine AW.reg mixed (by kernel_rfl) ?_
                        try simp only [go_sem, Nat.reduceEqDiff, Nat.reduceAdd, Nat.reduceSub, Nat.reduceMul, Nat.reduceLeDiff, Nat.reduceLT, Nat.reduceBEq, reduceIte]
                        refine JoinQ.mk (p0 == (60 : Int)) [] (Option.some.inj h) (by simp only [go_sem, Nat.reduceEqDiff, Nat.reduceAdd, Nat.reduceSub, Nat.reduceMul, Nat.reduceLeDiff, Nat.reduceLT, Nat.reduceBEq, reduceIte])
                    · rintro v32_0 rfl
                      have h := hJ33
                      try dsimp only [Out.fin] at h
                      simp only [go_sem, Nat.reduceEqDiff, Nat.reduceAdd, Nat.reduceSub, Nat.reduceMul, Nat.reduceLeDiff, Nat.reduceLT, Nat.reduceBEq, reduceIte]
                      refine AW.test (t := v32_0) (by simp only [go_sem, Nat.reduceEqDiff, Nat.reduceAdd, Nat.reduceSub, Nat.reduceMul, Nat.reduceLeDiff, Nat.reduceLT, Nat.reduceBEq, reduceIte]) (fun hb35 => ?_) (fun hb35 => ?_)
                      · have h := ifT hb35 h
                        refine AW.one ?_
                        refine AW.reg mixed (by kernel_rfl) ?_
                        try simp only [go_sem, Nat.reduceEqDiff, Nat.reduceAdd, Nat.reduceSub, Nat.reduceMul, Nat.reduceLeDiff, Nat.reduceLT, Nat.reduceBEq, reduceIte]
                        refine AW.ret ?_
                        obtain ⟨_, h, ho⟩ := outM_some h
                        rw [ho, Out.fin_out] at hJ27
                        have h := h.trans hJ27
                        obtain rfl := Option.some.inj h
                        simp only [go_sem, Nat.reduceEqDiff, Nat.reduceAdd, Nat.reduceSub, Nat.reduceMul, Nat.reduceLeDiff, Nat.reduceLT, Nat.reduceBEq, reduceIte]
                        exact .same _
                      · have h := ifF hb35 h
                        refine AW.skip ?_
                        try simp only [go_sem, Nat.reduceEqDiff, Nat.reduceAdd, Nat.reduceSub, Nat.reduceMul, Nat.reduceLeDiff, Nat.reduceLT, Nat.reduceBEq, reduceIte]
                        refine JoinQ.mk () [] (Option.some.inj h).symm (by simp only [go_sem, Nat.reduceEqDiff, Nat.reduceAdd, Nat.reduceSub, Nat.reduceMul, Nat.reduceLeDiff, Nat.reduceLT, Nat.reduceBEq, reduceIte])
              · rintro ⟨⟩ rfl
                have h := hJ27
                try dsimp only [Out.fin] at h
                simp only [go_sem, Nat.reduceEqDiff, Nat.reduceAdd, Nat.reduceSub, Nat.reduceMul, Nat.reduceLeDiff, Nat.reduceLT, Nat.reduceBEq, reduceIte]
                refine AW.one ?_
                refine AW.reg mixed (by kernel_rfl) ?_
                try simp only [go_sem, Nat.reduceEqDiff, Nat.reduceAdd, Nat.reduceSub, Nat.reduceMul, Nat.reduceLeDiff, Nat.reduceLT, Nat.reduceBEq, reduceIte]
                refine AW.ret ?_
                obtain rfl := Option.some.inj h
                simp only [go_sem, Nat.reduceEqDiff, Nat.reduceAdd, Nat.reduceSub, Nat.reduceMul, Nat.reduceLeDiff, Nat.reduceLT, Nat.reduceBEq, reduceIte]
                exact .same _
            · have h := ifF hb25 h
              refine AW.one ?_
              obtain ⟨oJ37, h, hJ37⟩ := obind h
              refine AW.join (S := Bool) (fun v36_0 => [(4, .d (.val (.int .i64 p0))), (37, .d (.val (.bool v36_0)))]) (fun v36_0 => []) (fun x => x = oJ37) ?_ ?_
              · skip
                refine AW.one ?_
                refine AW.reg mixed (by kernel_rfl) ?_
                try simp only [go_sem, Nat.reduceEqDiff, Nat.reduceAdd, Nat.reduceSub, Nat.reduceMul, Nat.reduceLeDiff, Nat.reduceLT, Nat.reduceBEq, reduceIte]
                refine AW.cut [] [(4, .d (.val (.int .i64 p0))), (37, .d (.val (.bool (p0 == (5 : Int)))))] [] (by simp only [go_sem, Nat.reduceEqDiff, Nat.reduceAdd, Nat.reduceSub, Nat.reduceMul, Nat.reduceLeDiff, Nat.reduceLT, Nat.reduceBEq, reduceIte]) ?_
                refine AW.test (t := (p0 == (5 : Int))) (by simp only [go_sem, Nat.reduceEqDiff, Nat.reduceAdd, Nat.reduceSub, Nat.reduceMul, Nat.reduceLeDiff, Nat.reduceLT, Nat.reduceBEq, reduceIte]) (fun hb38 => ?_) (fun hb38 => ?_)
                · have h := ifT hb38 h
                  refine AW.skip ?_
                  try simp only [go_sem, Nat.reduceEqDiff, Nat.reduceAdd, Nat.reduceSub, Nat.reduceMul, Nat.reduceLeDiff, Nat.reduceLT, Nat.reduceBEq, reduceIte]
                  refine JoinQ.mk (p0 == (5 : Int)) [] (Option.some.inj h) (by simp only [go_sem, Nat.reduceEqDiff, Nat.reduceAdd, Nat.reduceSub, Nat.reduceMul, Nat.reduceLeDiff, Nat.reduceLT, Nat.reduceBEq, reduceIte])
                · have h := ifF hb38 h
                  refine AW.one ?_
                  refine AW.reg mixed (by kernel_rfl) ?_
                  try simp only [go_sem, Nat.reduceEqDiff, Nat.reduceAdd, Nat.reduceSub, Nat.reduceMul, Nat.reduceLeDiff, Nat.reduceLT, Nat.reduceBEq, reduceIte]
                  refine AW.cut [] [(4, .d (.val (.int .i64 p0))), (37, .d (.val (.bool (p0 == (6 : Int)))))] [] (by simp only [go_sem, Nat.reduceEqDiff, Nat.reduceAdd, Nat.reduceSub, Nat.reduceMul, Nat.reduceLeDiff, Nat.reduceLT, Nat.reduceBEq, reduceIte]) ?_
                  refine AW.test (t := (p0 == (6 : Int))) (by simp only [go_sem, Nat.reduceEqDiff, Nat.reduceAdd, Nat.reduceSub, Nat.reduceMul, Nat.reduceLeDiff, Nat.reduceLT, Nat.reduceBEq, reduceIte]) (fun hb39 => ?_) (fun hb39 => ?_)
                  · have h := ifT hb39 h
                    refine AW.skip ?_
                    try simp only [go_sem, Nat.reduceEqDiff, Nat.reduceAdd, Nat.reduceSub, Nat.reduceMul, Nat.reduceLeDiff, Nat.reduceLT, Nat.reduceBEq, reduceIte]
                    refine JoinQ.mk (p0 == (6 : Int)) [] (Option.some.inj h) (by simp only [go_sem, Nat.reduceEqDiff, Nat.reduceAdd, Nat.reduceSub, Nat.reduceMul, Nat.reduceLeDiff, Nat.reduceLT, Nat.reduceBEq, reduceIte])
                  · have h := ifF hb39 h
                    refine AW.one ?_
                    refine AW.reg mixed (by kernel_rfl) ?_
                    try simp only [go_sem, Nat.reduceEqDiff, Nat.reduceAdd, Nat.reduceSub, Nat.reduceMul, Nat.reduceLeDiff, Nat.reduceLT, Nat.reduceBEq, reduceIte]
                    refine AW.cut [] [(4, .d (.val (.int .i64 p0))), (37, .d (.val (.bool (p0 == (7 : Int)))))] [] (by simp only [go_sem, Nat.reduceEqDiff, Nat.reduceAdd, Nat.reduceSub, Nat.reduceMul, Nat.reduceLeDiff, Nat.reduceLT, Nat.reduceBEq, reduceIte]) ?_
                    refine AW.test (t := (p0 == (7 : Int))) (by simp only [go_sem, Nat.reduceEqDiff, Nat.reduceAdd, Nat.reduceSub, Nat.reduceMul, Nat.reduceLeDiff, Nat.reduceLT, Nat.reduceBEq, reduceIte]) (fun hb40 => ?_) (fun hb40 => ?_)
                    · have h := ifT hb40 h
                      refine AW.skip ?_
                      try simp only [go_sem, Nat.reduceEqDiff, Nat.reduceAdd, Nat.reduceSub, Nat.reduceMul, Nat.reduceLeDiff, Nat.reduceLT, Nat.reduceBEq, reduceIte]
                      refine JoinQ.mk (p0 == (7 : Int)) [] (Option.some.inj h) (by simp only [go_sem, Nat.reduceEqDiff, Nat.reduceAdd, Nat.reduceSub, Nat.reduceMul, Nat.reduceLeDiff, Nat.reduceLT, Nat.reduceBEq, reduceIte])
                    · have h := ifF hb40 h
                      refine AW.one ?_
                      refine AW.reg mixed (by kernel_rfl) ?_
                      try simp only [go_sem, Nat.reduceEqDiff, Nat.reduceAdd, Nat.reduceSub, Nat.reduceMul, Nat.reduceLeDiff, Nat.reduceLT, Nat.reduceBEq, reduceIte]
                      refine AW.cut [] [(4, .d (.val (.int .i64 p0))), (37, .d (.val (.bool (p0 == (8 : Int)))))] [] (by simp only [go_sem, Nat.reduceEqDiff, Nat.reduceAdd, Nat.reduceSub, Nat.reduceMul, Nat.reduceLeDiff, Nat.reduceLT, Nat.reduceBEq, reduceIte]) ?_
                      refine AW.test (t := (p0 == (8 : Int))) (by simp only [go_sem, Nat.reduceEqDiff, Nat.reduceAdd, Nat.reduceSub, Nat.reduceMul, Nat.reduceLeDiff, Nat.reduceLT, Nat.reduceBEq, reduceIte]) (fun hb41 => ?_) (fun hb41 => ?_)
                      · have h := ifT hb41 h
                        refine AW.skip ?_
                        try simp only [go_sem, Nat.reduceEqDiff, Nat.reduceAdd, Nat.reduceSub, Nat.reduceMul, Nat.reduceLeDiff, Nat.reduceLT, Nat.reduceBEq, reduceIte]
                        refine JoinQ.mk (p0 == (8 : Int)) [] (Option.some.inj h) (by simp only [go_sem, Nat.reduceEqDiff, Nat.reduceAdd, Nat.reduceSub, Nat.reduceMul, Nat.reduceLeDiff, Nat.reduceLT, Nat.reduceBEq, reduceIte])
                      · have h := ifF hb41 h
                        refine AW.one ?_
                        refine AW.reg mixed (by kernel_rfl) ?_
                        try simp only [go_sem, Nat.reduceEqDiff, Nat.reduceAdd, Nat.reduceSub, Nat.reduceMul, Nat.reduceLeDiff, Nat.reduceLT, Nat.reduceBEq, reduceIte]
                        refine AW.cut [] [(4, .d (.val (.int .i64 p0))), (37, .d (.val (.bool (p0 == (9 : Int)))))] [] (by simp only [go_sem, Nat.reduceEqDiff, Nat.reduceAdd, Nat.reduceSub, Nat.reduceMul, Nat.reduceLeDiff, Nat.reduceLT, Nat.reduceBEq, reduceIte]) ?_
                        refine AW.test (t := (p0 == (9 : Int))) (by simp only [go_sem, Nat.reduceEqDiff, Nat.reduceAdd, Nat.reduceSub, Nat.reduceMul, Nat.reduceLeDiff, Nat.reduceLT, Nat.reduceBEq, reduceIte]) (fun hb42 => ?_) (fun hb42 => ?_)
                        · have h := ifT hb42 h
                          refine AW.skip ?_
                          try simp only [go_sem, Nat.reduceEqDiff, Nat.reduceAdd, Nat.reduceSub, Nat.reduceMul, Nat.reduceLeDiff, Nat.reduceLT, Nat.reduceBEq, reduceIte]
                          refine JoinQ.mk (p0 == (9 : Int)) [] (Option.some.inj h) (by simp only [go_sem, Nat.reduceEqDiff, Nat.reduceAdd, Nat.reduceSub, Nat.reduceMul, Nat.reduceLeDiff, Nat.reduceLT, Nat.reduceBEq, reduceIte])
                        · have h := ifF hb42 h
                          refine AW.one ?_
                          refine AW.reg mixed (by kernel_rfl) ?_
                          try simp only [go_sem, Nat.reduceEqDiff, Nat.reduceAdd, Nat.reduceSub, Nat.reduceMul, Nat.reduceLeDiff, Nat.reduceLT, Nat.reduceBEq, reduceIte]
                          refine AW.cut [] [(4, .d (.val (.int .i64 p0))), (37, .d (.val (.bool (p0 == (22 : Int)))))] [] (by simp only [go_sem, Nat.reduceEqDiff, Nat.reduceAdd, Nat.reduceSub, Nat.reduceMul, Nat.reduceLeDiff, Nat.reduceLT, Nat.reduceBEq, reduceIte]) ?_
                          refine AW.test (t := (p0 == (22 : Int))) (by simp only [go_sem, Nat.reduceEqDiff, Nat.reduceAdd, Nat.reduceSub, Nat.reduceMul, Nat.reduceLeDiff, Nat.reduceLT, Nat.reduceBEq, reduceIte]) (fun hb43 => ?_) (fun hb43 => ?_)
                          · have h := ifT hb43 h
                            refine AW.skip ?_
                            try simp only [go_sem, Nat.reduceEqDiff, Nat.reduceAdd, Nat.reduceSub, Nat.reduceMul, Nat.reduceLeDiff, Nat.reduceLT, Nat.reduceBEq, reduceIte]
                            refine JoinQ.mk (p0 == (22 : Int)) [] (Option.some.inj h) (by simp only [go_sem, Nat.reduceEqDiff, Nat.reduceAdd, Nat.reduceSub, Nat.reduceMul, Nat.reduceLeDiff, Nat.reduceLT, Nat.reduceBEq, reduceIte])
                          · have h := ifF hb43 h
                            refine AW.one ?_
                            refine AW.reg mixed (by kernel_rfl) ?_
                            try simp only [go_sem, Nat.reduceEqDiff, Nat.reduceAdd, Nat.reduceSub, Nat.reduceMul, Nat.reduceLeDiff, Nat.reduceLT, Nat.reduceBEq, reduceIte]
                            refine AW.cut [] [(4, .d (.val (.int .i64 p0))), (37, .d (.val (.bool (p0 == (23 : Int)))))] [] (by simp only [go_sem, Nat.reduceEqDiff, Nat.reduceAdd, Nat.reduceSub, Nat.reduceMul, Nat.reduceLeDiff, Nat.reduceLT, Nat.reduceBEq, reduceIte]) ?_
                            refine AW.test (t := (p0 == (23 : Int))) (by simp only [go_sem, Nat.reduceEqDiff, Nat.reduceAdd, Nat.reduceSub, Nat.reduceMul, Nat.reduceLeDiff, Nat.reduceLT, Nat.reduceBEq, reduceIte]) (fun hb44 => ?_) (fun hb44 => ?_)
                            · have h := ifT hb44 h
                              refine AW.skip ?_
                              try simp only [go_sem, Nat.reduceEqDiff, Nat.reduceAdd, Nat.reduceSub, Nat.reduceMul, Nat.reduceLeDiff, Nat.reduceLT, Nat.reduceBEq, reduceIte]
                              refine JoinQ.mk (p0 == (23 : Int)) [] (Option.some.inj h) (by simp only [go_sem, Nat.reduceEqDiff, Nat.reduceAdd, Nat.reduceSub, Nat.reduceMul, Nat.reduceLeDiff, Nat.reduceLT, Nat.reduceBEq, reduceIte])
                            · have h := ifF hb44 h
                              refine AW.one ?_
                              refine AW.reg mixed (by kernel_rfl) ?_
                              try simp only [go_sem, Nat.reduceEqDiff, Nat.reduceAdd, Nat.reduceSub, Nat.reduceMul, Nat.reduceLeDiff, Nat.reduceLT, Nat.reduceBEq, reduceIte]
                              refine AW.cut [] [(4, .d (.val (.int .i64 p0))), (37, .d (.val (.bool (p0 == (24 : Int)))))] [] (by simp only [go_sem, Nat.reduceEqDiff, Nat.reduceAdd, Nat.reduceSub, Nat.reduceMul, Nat.reduceLeDiff, Nat.reduceLT, Nat.reduceBEq, reduceIte]) ?_
                              refine AW.test (t := (p0 == (24 : Int))) (by simp only [go_sem, Nat.reduceEqDiff, Nat.reduceAdd, Nat.reduceSub, Nat.reduceMul, Nat.reduceLeDiff, Nat.reduceLT, Nat.reduceBEq, reduceIte]) (fun hb45 => ?_) (fun hb45 => ?_)
                              · have h := ifT hb45 h
                                refine AW.skip ?_
                                try simp only [go_sem, Nat.reduceEqDiff, Nat.reduceAdd, Nat.reduceSub, Nat.reduceMul, Nat.reduceLeDiff, Nat.reduceLT, Nat.reduceBEq, reduceIte]
                                refine JoinQ.mk (p0 == (24 : Int)) [] (Option.some.inj h) (by simp only [go_sem, Nat.reduceEqDiff, Nat.reduceAdd, Nat.reduceSub, Nat.reduceMul, Nat.reduceLeDiff, Nat.reduceLT, Nat.reduceBEq, reduceIte])
                              · have h := ifF hb45 h
                                refine AW.one ?_
                                refine AW.reg mixed (by kernel_rfl) ?_
                                try simp only [go_sem, Nat.reduceEqDiff, Nat.reduceAdd, Nat.reduceSub, Nat.reduceMul, Nat.reduceLeDiff, Nat.reduceLT, Nat.reduceBEq, reduceIte]
                                refine AW.cut [] [(4, .d (.val (.int .i64 p0))), (37, .d (.val (.bool (p0 == (25 : Int)))))] [] (by simp only [go_sem, Nat.reduceEqDiff, Nat.reduceAdd, Nat.reduceSub, Nat.reduceMul, Nat.reduceLeDiff, Nat.reduceLT, Nat.reduceBEq, reduceIte]) ?_
                                refine AW.test (t := (p0 == (25 : Int))) (by simp only [go_sem, Nat.reduceEqDiff, Nat.reduceAdd, Nat.reduceSub, Nat.reduceMul, Nat.reduceLeDiff, Nat.reduceLT, Nat.reduceBEq, reduceIte]) (fun hb46 => ?_) (fun hb46 => ?_)
                                · have h := ifT hb46 h
                                  refine AW.skip ?_
                                  try simp only [go_sem, Nat.reduceEqDiff, Nat.reduceAdd, Nat.reduceSub, Nat.reduceMul, Nat.reduceLeDiff, Nat.reduceLT, Nat.reduceBEq, reduceIte]
                                  refine JoinQ.mk (p0 == (25 : Int)) [] (Option.some.inj h) (by simp only [go_sem, Nat.reduceEqDiff, Nat.reduceAdd, Nat.reduceSub, Nat.reduceMul, Nat.reduceLeDiff, Nat.reduceLT, Nat.reduceBEq, reduceIte])
                                · have h := ifF hb46 h
                                  refine AW.one ?_
                                  refine AW.reg mixed (by kernel_rfl) ?_
                                  try simp only [go_sem, Nat.reduceEqDiff, Nat.reduceAdd, Nat.reduceSub, Nat.reduceMul, Nat.reduceLeDiff, Nat.reduceLT, Nat.reduceBEq, reduceIte]
                                  refine AW.cut [] [(4, .d (.val (.int .i64 p0))), (37, .d (.val (.bool (p0 == (26 : Int)))))] [] (by simp only [go_sem, Nat.reduceEqDiff, Nat.reduceAdd, Nat.reduceSub, Nat.reduceMul, Nat.reduceLeDiff, Nat.reduceLT, Nat.reduceBEq, reduceIte]) ?_
                                  refine AW.test (t := (p0 == (26 : Int))) (by simp only [go_sem, Nat.reduceEqDiff, Nat.reduceAdd, Nat.reduceSub, Nat.reduceMul, Nat.reduceLeDiff, Nat.reduceLT, Nat.reduceBEq, reduceIte]) (fun hb47 => ?_) (fun hb47 => ?_)
                                  · have h := ifT hb47 h
                                    refine AW.skip ?_
                                    try simp only [go_sem, Nat.reduceEqDiff, Nat.reduceAdd, Nat.reduceSub, Nat.reduceMul, Nat.reduceLeDiff, Nat.reduceLT, Nat.reduceBEq, reduceIte]
                                    refine JoinQ.mk (p0 == (26 : Int)) [] (Option.some.inj h) (by simp only [go_sem, Nat.reduceEqDiff, Nat.reduceAdd, Nat.reduceSub, Nat.reduceMul, Nat.reduceLeDiff, Nat.reduceLT, Nat.reduceBEq, reduceIte])
                                  · have h := ifF hb47 h
                                    refine AW.reg mixed (by kernel_rfl) ?_
                                    try simp only [go_sem, Nat.reduceEqDiff, Nat.reduceAdd, Nat.reduceSub, Nat.reduceMul, Nat.reduceLeDiff, Nat.reduceLT, Nat.reduceBEq, reduceIte]
                                    refine JoinQ.mk (p0 == (27 : Int)) [] (Option.some.inj h) (by simp only [go_sem, Nat.reduceEqDiff, Nat.reduceAdd, Nat.reduceSub, Nat.reduceMul, Nat.reduceLeDiff, Nat.reduceLT, Nat.reduceBEq, reduceIte])
              · rintro v36_0 rfl
                have h := hJ37
                try dsimp only [Out.fin] at h
                simp only [go_sem, Nat.reduceEqDiff, Nat.reduceAdd, Nat.reduceSub, Nat.reduceMul, Nat.reduceLeDiff, Nat.reduceLT, Nat.reduceBEq, reduceIte]
                refine AW.test (t := v36_0) (by simp only [go_sem, Nat.reduceEqDiff, Nat.reduceAdd, Nat.reduceSub, Nat.reduceMul, Nat.reduceLeDiff, Nat.reduceLT, Nat.reduceBEq, reduceIte]) (fun hb48 => ?_) (fun hb48 => ?_)
                · have h := ifT hb48 h
                  refine AW.one ?_
                  refine AW.reg mixed (by kernel_rfl) ?_
                  try simp only [go_sem, Nat.reduceEqDiff, Nat.reduceAdd, Nat.reduceSub, Nat.reduceMul, Nat.reduceLeDiff, Nat.reduceLT, Nat.reduceBEq, reduceIte]
                  refine AW.ret ?_
                  obtain rfl := Option.some.inj h
                  simp only [go_sem, Nat.reduceEqDiff, Nat.reduceAdd, Nat.reduceSub, Nat.reduceMul, Nat.reduceLeDiff, Nat.reduceLT, Nat.reduceBEq, reduceIte]
                  exact .same _
                · have h := ifF hb48 h
                  refine AW.one ?_
                  obtain ⟨oJ50, h, hJ50⟩ := obind h
                  refine AW.join (S := Bool) (fun v49_0 => [(4, .d (.val (.int .i64 p0))), (50, .d (.val (.bool v49_0)))]) (fun v49_0 => []) (fun x => x = oJ50) ?_ ?_
                  · skip
                    refine AW.one ?_
                    refine AW.reg mixed (by kernel_rfl) ?_
                    try simp only [go_sem, Nat.reduceEqDiff, Nat.reduceAdd, Nat.reduceSub, Nat.reduceMul, Nat.reduceLeDiff, Nat.reduceLT, Nat.reduceBEq, reduceIte]
                    refine AW.cut [] [(4, .d (.val (.int .i64 p0))), (50, .d (.val (.bool (p0 == (29 : Int)))))] [] (by simp only [go_sem, Nat.reduceEqDiff, Nat.reduceAdd, Nat.reduceSub, Nat.reduceMul, Nat.reduceLeDiff, Nat.reduceLT, Nat.reduceBEq, reduceIte]) ?_
                    refine AW.test (t := (p0 == (29 : Int))) (by simp only [go_sem, Nat.reduceEqDiff, Nat.reduceAdd, Nat.reduceSub, Nat.reduceMul, Nat.reduceLeDiff, Nat.reduceLT, Nat.reduceBEq, reduceIte]) (fun hb51 => ?_) (fun hb51 => ?_)
                    · have h := ifT hb51 h
                      refine AW.skip ?_
                      try simp only [go_sem, Nat.reduceEqDiff, Nat.reduceAdd, Nat.reduceSub, Nat.reduceMul, Nat.reduceLeDiff, Nat.reduceLT, Nat.reduceBEq, reduceIte]
                      refine JoinQ.mk (p0 == (29 : Int)) [] (Option.some.inj h) (by simp only [go_sem, Nat.reduceEqDiff, Nat.reduceAdd, Nat.reduceSub, Nat.reduceMul, Nat.reduceLeDiff, Nat.reduceLT, Nat.reduceBEq, reduceIte])
                    · have h := ifF hb51 h
                      refine AW.one ?_
                      refine AW.reg mixed (by kernel_rfl) ?_
                      try simp only [go_sem, Nat.reduceEqDiff, Nat.reduceAdd, Nat.reduceSub, Nat.reduceMul, Nat.reduceLeDiff, Nat.reduceLT, Nat.reduceBEq, reduceIte]
                      refine AW.cut [] [(4, .d (.val (.int .i64 p0))), (50, .d (.val (.bool (p0 == (30 : Int)))))] [] (by simp only [go_sem, Nat.reduceEqDiff, Nat.reduceAdd, Nat.reduceSub, Nat.reduceMul, Nat.reduceLeDiff, Nat.reduceLT, Nat.reduceBEq, reduceIte]) ?_
                      refine AW.test (t := (p0 == (30 : Int))) (by simp only [go_sem, Nat.reduceEqDiff, Nat.reduceAdd, Nat.reduceSub, Nat.reduceMul, Nat.reduceLeDiff, Nat.reduceLT, Nat.reduceBEq, reduceIte]) (fun hb52 => ?_) (fun hb52 => ?_)
                      · have h := ifT hb52 h
                        refine AW.skip ?_
                        try simp only [go_sem, Nat.reduceEqDiff, Nat.reduceAdd, Nat.reduceSub, Nat.reduceMul, Nat.reduceLeDiff, Nat.reduceLT, Nat.reduceBEq, reduceIte]
                        refine JoinQ.mk (p0 == (30 : Int)) [] (Option.some.inj h) (by simp only [go_sem, Nat.reduceEqDiff, Nat.reduceAdd, Nat.reduceSub, Nat.reduceMul, Nat.reduceLeDiff, Nat.reduceLT, Nat.reduceBEq, reduceIte])
                      · have h := ifF hb52 h
                        refine AW.one ?_
                        refine AW.reg mixed (by kernel_rfl) ?_
                        try simp only [go_sem, Nat.reduceEqDiff, Nat.reduceAdd, Nat.reduceSub, Nat.reduceMul, Nat.reduceLeDiff, Nat.reduceLT, Nat.reduceBEq, reduceIte]
                        refine AW.cut [] [(4, .d (.val (.int .i64 p0))), (50, .d (.val (.bool (p0 == (31 : Int)))))] [] (by simp only [go_sem, Nat.reduceEqDiff, Nat.reduceAdd, Nat.reduceSub, Nat.reduceMul, Nat.reduceLeDiff, Nat.reduceLT, Nat.reduceBEq, reduceIte]) ?_
                        refine AW.test (t := (p0 == (31 : Int))) (by simp only [go_sem, Nat.reduceEqDiff, Nat.reduceAdd, Nat.reduceSub, Nat.reduceMul, Nat.reduceLeDiff, Nat.reduceLT, Nat.reduceBEq, reduceIte]) (fun hb53 => ?_) (fun hb53 => ?_)
                        · have h := ifT hb53 h
                          refine AW.skip ?_
                          try simp only [go_sem, Nat.reduceEqDiff, Nat.reduceAdd, Nat.reduceSub, Nat.reduceMul, Nat.reduceLeDiff, Nat.reduceLT, Nat.reduceBEq, reduceIte]
                          refine JoinQ.mk (p0 == (31 : Int)) [] (Option.some.inj h) (by simp only [go_sem, Nat.reduceEqDiff, Nat.reduceAdd, Nat.reduceSub, Nat.reduceMul, Nat.reduceLeDiff, Nat.reduceLT, Nat.reduceBEq, reduceIte])
                        · have h := ifF hb53 h
                          refine AW.reg mixed (by kernel_rfl) ?_
                          try simp only [go_sem, Nat.reduceEqDiff, Nat.reduceAdd, Nat.reduceSub, Nat.reduceMul, Nat.reduceLeDiff, Nat.reduceLT, Nat.reduceBEq, reduceIte]
                          refine JoinQ.mk (p0 == (32 : Int)) [] (Option.some.inj h) (by simp only [go_sem, Nat.reduceEqDiff, Nat.reduceAdd, Nat.reduceSub, Nat.reduceMul, Nat.reduceLeDiff, Nat.reduceLT, Nat.reduceBEq, reduceIte])
                  · rintro v49_0 rfl
                    have h := hJ50
                    try dsimp only [Out.fin] at h
                    simp only [go_sem, Nat.reduceEqDiff, Nat.reduceAdd, Nat.reduceSub, Nat.reduceMul, Nat.reduceLeDiff, Nat.reduceLT, Nat.reduceBEq, reduceIte]
                    refine AW.test (t := v49_0) (by simp only [go_sem, Nat.reduceEqDiff, Nat.reduceAdd, Nat.reduceSub, Nat.reduceMul, Nat.reduceLeDiff, Nat.reduceLT, Nat.reduceBEq, reduceIte]) (fun hb54 => ?_) (fun hb54 => ?_)
                    · have h := ifT hb54 h
                      refine AW.one ?_
                      refine AW.reg mixed (by kernel_rfl) ?_
                      try simp only [go_sem, Nat.reduceEqDiff, Nat.reduceAdd, Nat.reduceSub, Nat.reduceMul, Nat.reduceLeDiff, Nat.reduceLT, Nat.reduceBEq, reduceIte]
                      refine AW.ret ?_
                      obtain rfl := Option.some.inj h
                      simp only [go_sem, Nat.reduceEqDiff, Nat.reduceAdd, Nat.reduceSub, Nat.reduceMul, Nat.reduceLeDiff, Nat.reduceLT, Nat.reduceBEq, reduceIte]
                      exact .same _
                    · have h := ifF hb54 h
                      refine AW.one ?_
                      obtain ⟨oJ56, h, hJ56⟩ := obind h
                      refine AW.join (S := Bool) (fun v55_0 => [(4, .d (.val (.int .i64 p0))), (56, .d (.val (.bool v55_0)))]) (fun v55_0 => []) (fun x => x = oJ56) ?_ ?_
                      · skip
                        refine AW.one ?_
                        refine AW.reg mixed (by kernel_rfl) ?_
                        try simp only [go_sem, Nat.reduceEqDiff, Nat.reduceAdd, Nat.reduceSub, Nat.reduceMul, Nat.reduceLeDiff, Nat.reduceLT, Nat.reduceBEq, reduceIte]
                        refine AW.cut [] [(4, .d (.val (.int .i64 p0))), (56, .d (.val (.bool (p0 == (33 : Int)))))] [] (by simp only [go_sem, Nat.reduceEqDiff, Nat.reduceAdd, Nat.reduceSub, Nat.reduceMul, Nat.reduceLeDiff, Nat.reduceLT, Nat.reduceBEq, reduceIte]) ?_
                        refine AW.test (t := (p0 == (33 : Int))) (by simp only [go_sem, Nat.reduceEqDiff, Nat.reduceAdd, Nat.reduceSub, Nat.reduceMul, Nat.reduceLeDiff, Nat.reduceLT, Nat.reduceBEq, reduceIte]) (fun hb57 => ?_) (fun hb57 => ?_)
                        · have h := ifT hb57 h
                          refine AW.skip ?_
                          try simp only [go_sem, Nat.reduceEqDiff, Nat.reduceAdd, Nat.reduceSub, Nat.reduceMul, Nat.reduceLeDiff, Nat.reduceLT, Nat.reduceBEq, reduceIte]
                          refine JoinQ.mk (p0 == (33 : Int)) [] (Option.some.inj h) (by simp only [go_sem, Nat.reduceEqDiff, Nat.reduceAdd, Nat.reduceSub, Nat.reduceMul, Nat.reduceLeDiff, Nat.reduceLT, Nat.reduceBEq, reduceIte])
                        · have h := ifF hb57 h
                          refine AW.reg mixed (by kernel_rfl) ?_
                          try simp only [go_sem, Nat.reduceEqDiff, Nat.reduceAdd, Nat.reduceSub, Nat.reduceMul, Nat.reduceLeDiff, Nat.reduceLT, Nat.reduceBEq, reduceIte]
                          refine JoinQ.mk (p0 == (34 : Int)) [] (Option.some.inj h) (by simp only [go_sem, Nat.reduceEqDiff, Nat.reduceAdd, Nat.reduceSub, Nat.reduceMul, Nat.reduceLeDiff, Nat.reduceLT, Nat.reduceBEq, reduceIte])
                      · rintro v55_0 rfl
                        have h := hJ56
                        try dsimp only [Out.fin] at h
                        simp only [go_sem, Nat.reduceEqDiff, Nat.reduceAdd, Nat.reduceSub, Nat.reduceMul, Nat.reduceLeDiff, Nat.reduceLT, Nat.reduceBEq, reduceIte]
                        refine AW.test (t := v55_0) (by simp only [go_sem, Nat.reduceEqDiff, Nat.reduceAdd, Nat.reduceSub, Nat.reduceMul, Nat.reduceLeDiff, Nat.reduceLT, Nat.reduceBEq, reduceIte]) (fun hb58 => ?_) (fun hb58 => ?_)
                        · have h := ifT hb58 h
                          refine AW.one ?_
                          refine AW.reg mixed (by kernel_rfl) ?_
                          try simp only [go_sem, Nat.reduceEqDiff, Nat.reduceAdd, Nat.reduceSub, Nat.reduceMul, Nat.reduceLeDiff, Nat.reduceLT, Nat.reduceBEq, reduceIte]
                          refine AW.ret ?_
                          obtain rfl := Option.some.inj h
                          simp only [go_sem, Nat.reduceEqDiff, Nat.reduceAdd, Nat.reduceSub, Nat.reduceMul, Nat.reduceLeDiff, Nat.reduceLT, Nat.reduceBEq, reduceIte]
                          exact .same _
                        · have h := ifF hb58 h
                          refine AW.one ?_
                          obtain ⟨oJ60, h, hJ60⟩ := obind h
                          refine AW.join (S := Bool) (fun v59_0 => [(4, .d (.val (.int .i64 p0))), (60, .d (.val (.bool v59_0)))]) (fun v59_0 => []) (fun x => x = oJ60) ?_ ?_
                          · skip
                            refine AW.one ?_
                            refine AW.reg mixed (by kernel_rfl) ?_
                            try simp only [go_sem, Nat.reduceEqDiff, Nat.reduceAdd, Nat.reduceSub, Nat.reduceMul, Nat.reduceLeDiff, Nat.reduceLT, Nat.reduceBEq, reduceIte]
                            refine AW.cut [] [(4, .d (.val (.int .i64 p0))), (60, .d (.val (.bool (p0 == (35 : Int)))))] [] (by simp only [go_sem, Nat.reduceEqDiff, Nat.reduceAdd, Nat.reduceSub, Nat.reduceMul, Nat.reduceLeDiff, Nat.reduceLT, Nat.reduceBEq, reduceIte]) ?_
                            refine AW.test (t := (p0 == (35 : Int))) (by simp only [go_sem, Nat.reduceEqDiff, Nat.reduceAdd, Nat.reduceSub, Nat.reduceMul, Nat.reduceLeDiff, Nat.reduceLT, Nat.reduceBEq, reduceIte]) (fun hb61 => ?_) (fun hb61 => ?_)
                            · have h := ifT hb61 h
                              refine AW.skip ?_
                              try simp only [go_sem, Nat.reduceEqDiff, Nat.reduceAdd, Nat.reduceSub, Nat.reduceMul, Nat.reduceLeDiff, Nat.reduceLT, Nat.reduceBEq, reduceIte]
                              refine JoinQ.mk (p0 == (35 : Int)) [] (Option.some.inj h) (by simp only [go_sem, Nat.reduceEqDiff, Nat.reduceAdd, Nat.reduceSub, Nat.reduceMul, Nat.reduceLeDiff, Nat.reduceLT, Nat.reduceBEq, reduceIte])
                            · have h := ifF hb61 h
                              refine AW.reg mixed (by kernel_rfl) ?_
                              try simp only [go_sem, Nat.reduceEqDiff, Nat.reduceAdd, Nat.reduceSub, Nat.reduceMul, Nat.reduceLeDiff, Nat.reduceLT, Nat.reduceBEq, reduceIte]
                              refine JoinQ.mk (p0 == (36 : Int)) [] (Option.some.inj h) (by simp only [go_sem, Nat.reduceEqDiff, Nat.reduceAdd, Nat.reduceSub, Nat.reduceMul, Nat.reduceLeDiff, Nat.reduceLT, Nat.reduceBEq, reduceIte])
                          · rintro v59_0 rfl
                            have h := hJ60
                            try dsimp only [Out.fin] at h
                            simp only [go_sem, Nat.reduceEqDiff, Nat.reduceAdd, Nat.reduceSub, Nat.reduceMul, Nat.reduceLeDiff, Nat.reduceLT, Nat.reduceBEq, reduceIte]
                            refine AW.test (t := v59_0) (by simp only [go_sem, Nat.reduceEqDiff, Nat.reduceAdd, Nat.reduceSub, Nat.reduceMul, Nat.reduceLeDiff, Nat.reduceLT, Nat.reduceBEq, reduceIte]) (fun hb62 => ?_) (fun hb62 => ?_)
                            · have h := ifT hb62 h
                              refine AW.one ?_
                              refine AW.reg mixed (by kernel_rfl) ?_
                              try simp only [go_sem, Nat.reduceEqDiff, Nat.reduceAdd, Nat.reduceSub, Nat.reduceMul, Nat.reduceLeDiff, Nat.reduceLT, Nat.reduceBEq, reduceIte]
                              refine AW.ret ?_
                              obtain rfl := Option.some.inj h
                              simp only [go_sem, Nat.reduceEqDiff, Nat.reduceAdd, Nat.reduceSub, Nat.reduceMul, Nat.reduceLeDiff, Nat.reduceLT, Nat.reduceBEq, reduceIte]
                              exact .same _
                            · have h := ifF hb62 h
                              refine AW.one ?_
                              obtain ⟨oJ64, h, hJ64⟩ := obind h
                              refine AW.join (S := Bool) (fun v63_0 => [(4, .d (.val (.int .i64 p0))), (64, .d (.val (.bool v63_0)))]) (fun v63_0 => []) (fun x => x = oJ64) ?_ ?_
                              · skip
                                refine AW.one ?_
                                refine AW.reg mixed (by kernel_rfl) ?_
                                try simp only [go_sem, Nat.reduceEqDiff, Nat.reduceAdd, Nat.reduceSub, Nat.reduceMul, Nat.reduceLeDiff, Nat.reduceLT, Nat.reduceBEq, reduceIte]
                                refine AW.cut [] [(4, .d (.val (.int .i64 p0))), (64, .d (.val (.bool (p0 == (50 : Int)))))] [] (by simp only [go_sem, Nat.reduceEqDiff, Nat.reduceAdd, Nat.reduceSub, Nat.reduceMul, Nat.reduceLeDiff, Nat.reduceLT, Nat.reduceBEq, reduceIte]) ?_
                                refine AW.test (t := (p0 == (50 : Int))) (by simp only [go_sem, Nat.reduceEqDiff, Nat.reduceAdd, Nat.reduceSub, Nat.reduceMul, Nat.reduceLeDiff, Nat.reduceLT, Nat.reduceBEq, reduceIte]) (fun hb65 => ?_) (fun hb65 => ?_)
                                · have h := ifT hb65 h
                                  refine AW.skip ?_
                                  try simp only [go_sem, Nat.reduceEqDiff, Nat.reduceAdd, Nat.reduceSub, Nat.reduceMul, Nat.reduceLeDiff, Nat.reduceLT, Nat.reduceBEq, reduceIte]
                                  refine JoinQ.mk (p0 == (50 : Int)) [] (Option.some.inj h) (by simp only [go_sem, Nat.reduceEqDiff, Nat.reduceAdd, Nat.reduceSub, Nat.reduceMul, Nat.reduceLeDiff, Nat.reduceLT, Nat.reduceBEq, reduceIte])
                                · have h := ifF hb65 h
                                  refine AW.one ?_
                                  refine AW.reg mixed (by kernel_rfl) ?_
                                  try simp only [go_sem, Nat.reduceEqDiff, Nat.reduceAdd, Nat.reduceSub, Nat.reduceMul, Nat.reduceLeDiff, Nat.reduceLT, Nat.reduceBEq, reduceIte]
                                  refine AW.cut [] [(4, .d (.val (.int .i64 p0))), (64, .d (.val (.bool (p0 == (51 : Int)))))] [] (by simp only [go_sem, Nat.reduceEqDiff, Nat.reduceAdd, Nat.reduceSub, Nat.reduceMul, Nat.reduceLeDiff, Nat.reduceLT, Nat.reduceBEq, reduceIte]) ?_
                                  refine AW.test (t := (p0 == (51 : Int))) (by simp only [go_sem, Nat.reduceEqDiff, Nat.reduceAdd, Nat.reduceSub, Nat.reduceMul, Nat.reduceLeDiff, Nat.reduceLT, Nat.reduceBEq, reduceIte]) (fun hb66 => ?_) (fun hb66 => ?_)
                                  · have h := ifT hb66 h
                                    refine AW.skip ?_
                                    try simp only [go_sem, Nat.reduceEqDiff, Nat.reduceAdd, Nat.reduceSub, Nat.reduceMul, Nat.reduceLeDiff, Nat.reduceLT, Nat.reduceBEq, reduceIte]
                                    refine JoinQ.mk (p0 == (51 : Int)) [] (Option.some.inj h) (by simp only [go_sem, Nat.reduceEqDiff, Nat.reduceAdd, Nat.reduceSub, Nat.reduceMul, Nat.reduceLeDiff, Nat.reduceLT, Nat.reduceBEq, reduceIte])
                                  · have h := ifF hb66 h
                                    refine AW.reg mixed (by kernel_rfl) ?_
                                    try simp only [go_sem, Nat.reduceEqDiff, Nat.reduceAdd, Nat.reduceSub, Nat.reduceMul, Nat.reduceLeDiff, Nat.reduceLT, Nat.reduceBEq, reduceIte]
                                    refine JoinQ.mk (p0 == (55 : Int)) [] (Option.some.inj h) (by simp only [go_sem, Nat.reduceEqDiff, Nat.reduceAdd, Nat.reduceSub, Nat.reduceMul, Nat.reduceLeDiff, Nat.reduceLT, Nat.reduceBEq, reduceIte])
                              · rintro v63_0 rfl
                                have h := hJ64
                                try dsimp only [Out.fin] at h
                                simp only [go_sem, Nat.reduceEqDiff, Nat.reduceAdd, Nat.reduceSub, Nat.reduceMul, Nat.reduceLeDiff, Nat.reduceLT, Nat.reduceBEq, reduceIte]
                                refine AW.test (t := v63_0) (by simp only [go_sem, Nat.reduceEqDiff, Nat.reduceAdd, Nat.reduceSub, Nat.reduceMul, Nat.reduceLeDiff, Nat.reduceLT, Nat.reduceBEq, reduceIte]) (fun hb67 => ?_) (fun hb67 => ?_)
                                · have h := ifT hb67 h
                                  refine AW.one ?_
                                  refine AW.reg mixed (by kernel_rfl) ?_
                                  try simp only [go_sem, Nat.reduceEqDiff, Nat.reduceAdd, Nat.reduceSub, Nat.reduceMul, Nat.reduceLeDiff, Nat.reduceLT, Nat.reduceBEq, reduceIte]
                                  refine AW.ret ?_
                                  obtain rfl := Option.some.inj h
                                  simp only [go_sem, Nat.reduceEqDiff, Nat.reduceAdd, Nat.reduceSub, Nat.reduceMul, Nat.reduceLeDiff, Nat.reduceLT, Nat.reduceBEq, reduceIte]
                                  exact .same _
                                · have h := ifF hb67 h
                                  refine AW.one ?_
                                  obtain ⟨oJ69, h, hJ69⟩ := obind h
                                  refine AW.join (S := Bool) (fun v68_0 => [(69, .d (.val (.bool v68_0)))]) (fun v68_0 => []) (fun x => x = oJ69) ?_ ?_
                                  · skip
                                    refine AW.one ?_
                                    refine AW.reg mixed (by kernel_rfl) ?_
                                    try simp only [go_sem, Nat.reduceEqDiff, Nat.reduceAdd, Nat.reduceSub, Nat.reduceMul, Nat.reduceLeDiff, Nat.reduceLT, Nat.reduceBEq, reduceIte]
                                    refine AW.cut [] [(4, .d (.val (.int .i64 p0))), (69, .d (.val (.bool (p0 == (57 : Int)))))] [] (by simp only [go_sem, Nat.reduceEqDiff, Nat.reduceAdd, Nat.reduceSub, Nat.reduceMul, Nat.reduceLeDiff, Nat.reduceLT, Nat.reduceBEq, reduceIte]) ?_
                                    refine AW.test (t := (p0 == (57 : Int))) (by simp only [go_sem, Nat.reduceEqDiff, Nat.reduceAdd, Nat.reduceSub, Nat.reduceMul, Nat.reduceLeDiff, Nat.reduceLT, Nat.reduceBEq, reduceIte]) (fun hb70 => ?_) (fun hb70 => ?_)
                                    · have h := ifT hb70 h
                                      refine AW.skip ?_
                                      try simp only [go_sem, Nat.reduceEqDiff, Nat.reduceAdd, Nat.reduceSub, Nat.reduceMul, Nat.reduceLeDiff, Nat.reduceLT, Nat.reduceBEq, reduceIte]
                                      refine JoinQ.mk (p0 == (57 : Int)) [] (Option.some.inj h) (by simp only [go_sem, Nat.reduceEqDiff, Nat.reduceAdd, Nat.reduceSub, Nat.reduceMul, Nat.reduceLeDiff, Nat.reduceLT, Nat.reduceBEq, reduceIte])
                                    · have h := ifF hb70 h
                                      refine AW.reg mixed (by kernel_rfl) ?_
                                      try simp only [go_sem, Nat.reduceEqDiff, Nat.reduceAdd, Nat.reduceSub, Nat.reduceMul, Nat.reduceLeDiff, Nat.reduceLT, Nat.reduceBEq, reduceIte]
                                      refine JoinQ.mk (p0 == (58 : Int)) [] (Option.some.inj h) (by simp only [go_sem, Nat.reduceEqDiff, Nat.reduceAdd, Nat.reduceSub, Nat.reduceMul, Nat.reduceLeDiff, Nat.reduceLT, Nat.reduceBEq, reduceIte])
                                  · rintro v68_0 rfl
                                    have h := hJ69
                                    try dsimp only [Out.fin] at h
                                    simp only [go_sem, Nat.reduceEqDiff, Nat.reduceAdd, Nat.reduceSub, Nat.reduceMul, Nat.reduceLeDiff, Nat.reduceLT, Nat.reduceBEq, reduceIte]
                                    refine AW.test (t := v68_0) (by simp only [go_sem, Nat.reduceEqDiff, Nat.reduceAdd, Nat.reduceSub, Nat.reduceMul, Nat.reduceLeDiff, Nat.reduceLT, Nat.reduceBEq, reduceIte]) (fun hb71 => ?_) (fun hb71 => ?_)
                                    · have h := ifT hb71 h
                                      refine AW.one ?_
                                      refine AW.reg mixed (by kernel_rfl) ?_
                                      try simp only [go_sem, Nat.reduceEqDiff, Nat.reduceAdd, Nat.reduceSub, Nat.reduceMul, Nat.reduceLeDiff, Nat.reduceLT, Nat.reduceBEq, reduceIte]
                                      refine AW.ret ?_
                                      obtain rfl := Option.some.inj h
                                      simp only [go_sem, Nat.reduceEqDiff, Nat.reduceAdd, Nat.reduceSub, Nat.reduceMul, Nat.reduceLeDiff, Nat.reduceLT, Nat.reduceBEq, reduceIte]
                                      exact .same _
                                    · have h := ifF hb71 h
                                      refine AW.skip ?_
                                      try simp only [go_sem, Nat.reduceEqDiff, Nat.reduceAdd, Nat.reduceSub, Nat.reduceMul, Nat.reduceLeDiff, Nat.reduceLT, Nat.reduceBEq, reduceIte]
                                      refine AW.cut [] [] [] (by simp only [go_sem, Nat.reduceEqDiff, Nat.reduceAdd, Nat.reduceSub, Nat.reduceMul, Nat.reduceLeDiff, Nat.reduceLT, Nat.reduceBEq, reduceIte]) ?_
                                      refine AW.one ?_
                                      refine AW.reg mixed (by kernel_rfl) ?_
                                      try simp only [go_sem, Nat.reduceEqDiff, Nat.reduceAdd, Nat.reduceSub, Nat.reduceMul, Nat.reduceLeDiff, Nat.reduceLT, Nat.reduceBEq, reduceIte]
                                      refine AW.ret ?_
                                      obtain rfl := Option.some.inj h
                                      simp only [go_sem, Nat.reduceEqDiff, Nat.reduceAdd, Nat.reduceSub, Nat.reduceMul, Nat.reduceLeDiff, Nat.reduceLT, Nat.reduceBEq, reduceIte]
                                      exact .same _

end Go.Proofs.Ytcgphoghmgeecaa
namespace Go.Proofs.Ytcgphoghmgeecaa
open Go Go.Iso Go.Proofs
set_option linter.unusedSimpArgs false
set_option linter.unusedVariables false
set_option maxRecDepth 100000

structure Tree_placeA where
  inDiff : Bool
  inFDiff : Bool
  inFlow : Bool
def Tree_placeA.enc (x : Tree_placeA) : List D := [.val (.bool x.inDiff), .val (.bool x.inFDiff), .val (.bool x.inFlow)]
theorem Tree_placeA.enc_eta (x : Tree_placeA) : x.enc = [.val (.bool x.inDiff), .val (.bool x.inFDiff), .val (.bool x.inFlow)] := rfl
attribute [go_sem] Tree_placeA.enc_eta
/-! ### isochrone/tree.formed -/
def tree_formed_body (K : Nat) (self74 : (NodeA × Tree_placeA) → Option Bool) (p0 : NodeA) (p1 : Tree_placeA) : Option Bool := ((
    if (p0.op == (1 : Int)) then
      (tree_natural K p0.num).bind fun r4 => 
      if (!r4) then
        outM (
          some false)
      else
        some (.go ())
    else
      ((
        if p0.num.neg then
          some true
        else
          if (decide ((0 : Int) < (p0.num.num.length : Int))) then
            some true
          else
            some (decide ((0 : Int) < (p0.num.den.length : Int)))) : Option Bool).bind (fun v7_0 => 
      if v7_0 then
        outM (
          some false)
      else
        some (.go ()))) : Option (Out Unit _)).bind (Out.fin fun _ => 
  (tree_shape K p0.op).bind fun r12 => 
  ((
    ((
      if r12.1 then
        (tree_Name K p0.name).bind fun r19 => 
        if (!r19) then
          some true
        else
          some false
      else
        if (!(p0.name.toList == (⟨#[]⟩ : ByteArray).toList)) then
          if (p0.op != (10 : Int)) then
            some (p0.op != (37 : Int))
          else
            some false
        else
          some false) : Option Bool).bind (fun v16_0 => 
    if v16_0 then
      outM (
        some false)
    else
      some (.go ()))) : Option (Out Unit _)).bind (Out.fin fun _ => 
  ((
    ((
      if (p0.op == (10 : Int)) then
        some (p0.op == (10 : Int))
      else
        some (p0.op == (37 : Int))) : Option Bool).bind (fun v27_0 => 
    if v27_0 then
      ((
        ((
          (tree_Name K p0.name).bind fun r35 => 
          if (!r35) then
            some true
          else
            some (decide ((1 : Int) < (p0.kids.length : Int)))) : Option Bool).bind (fun v33_0 => 
        if v33_0 then
          outM (
            outM (
              some false))
        else
          some (.go ()))) : Option (Out Unit _)).bind (Out.fin fun _ => 
      (must r12.2.isNone).bind fun _ => 
      ((iter (S := Int × (List Int)) (R := (List Int)) K (fun again (i44_0, i44_1) => 
        if (decide (i44_0 < (p0.kids.length : Int))) then
          (appO 8 i44_1 [(1 : Int)]).bind fun l49 => 
          again (IntKind.wrap .i64 (i44_0 + (1 : Int)), l49)
        else
          some i44_1) ((0 : Int), [])) : Option (List Int)).bind (fun e45_0 => 
      some (.go (e45_0, p1))))
    else
      if (p0.op == (54 : Int)) then
        ((
          ((
            if (!(p0.name.toList == (⟨#[]⟩ : ByteArray).toList)) then
              some true
            else
              some (decide ((p0.kids.length : Int) < (2 : Int)))) : Option Bool).bind (fun v54_0 => 
          if v54_0 then
            outM (
              outM (
                some false))
          else
            some (.go ()))) : Option (Out Unit _)).bind (Out.fin fun _ => 
        (must r12.2.isNone).bind fun _ => 
        ((iter (S := Int × (List Int)) (R := Out (List Int) _) K (fun again (i63_0, i63_1) => 
          if (decide (i63_0 < (IntKind.wrap .i64 ((p0.kids.length : Int) - (1 : Int))))) then
            ((
              (idx p0.kids i63_0).bind fun x70 => 
              ((
                ((
                  if (x70.op != (55 : Int)) then
                    if (x70.op != (56 : Int)) then
                      some true
                    else
                      some (i63_0 != (IntKind.wrap .i64 ((IntKind.wrap .i64 ((p0.kids.length : Int) - (1 : Int))) - (1 : Int))))
                  else
                    some false) : Option Bool).bind (fun v74_0 => 
                if v74_0 then
                  outM (
                    outM (
                      outM (
                        outM (
                          some false))))
                else
                  some (.go ()))) : Option (Out Unit _)).bind (Out.fin fun _ => 
              (cutL p0.kids none (some i63_0)).bind fun s79 => 
              ((iter (S := Int) (R := Out Unit _) K (fun again i81_0 => 
                if (decide (i81_0 < (s79.length : Int))) then
                  ((
                    (idx s79 i81_0).bind fun x88 => 
                    ((
                      if (x70.op == (55 : Int)) then
                        some (x88.name.toList == x70.name.toList)
                      else
                        some false) : Option Bool).bind (fun v90_0 => 
                    if v90_0 then
                      outM (
                        outM (
                          outM (
                            outM (
                              outM (
                                some false)))))
                    else
                      some (.go ()))) : Option (Out Unit _)).bind (Out.fin fun _ => 
                  again (IntKind.wrap .i64 (i81_0 + (1 : Int))))
                else
                  some (.go ())) (0 : Int)) : Option (Out Unit _)).bind (Out.fin fun _ => 
              (appO 8 i63_1 [(4 : Int)]).bind fun l94 => 
              some (.go l94)))) : Option (Out (List Int) _)).bind (Out.fin fun v68_0 => 
            again (IntKind.wrap .i64 (i63_0 + (1 : Int)), v68_0))
          else
            some (.go i63_1)) ((0 : Int), [])) : Option (Out (List Int) _)).bind (Out.fin fun e64_0 => 
        (appO 8 e64_0 [(2 : Int)]).bind fun l96 => 
        some (.go (l96, (Tree_placeA.mk p1.inDiff p1.inFDiff true)))))
      else
        if (p0.op == (3 : Int)) then
          ((
            if p1.inDiff then
              some true
            else
              if p1.inFDiff then
                some true
              else
                some p1.inFlow) : Option Bool).bind (fun v99_0 => 
          if v99_0 then
            outM (
              some false)
          else
            some (.go ((r12.2.getD []), p1)))
        else
          if (p0.op == (12 : Int)) then
            ((
              ((
                if p1.inDiff then
                  some true
                else
                  some p1.inFlow) : Option Bool).bind (fun v107_0 => 
              if v107_0 then
                outM (
                  outM (
                    some false))
              else
                some (.go ()))) : Option (Out Unit _)).bind (Out.fin fun _ => 
            some (.go ((r12.2.getD []), (Tree_placeA.mk true p1.inFDiff p1.inFlow))))
          else
            if (p0.op == (39 : Int)) then
              ((
                ((
                  if p1.inFlow then
                    some true
                  else
                    if ((p0.kids.length : Int) != (1 : Int)) then
                      some true
                    else
                      (idx p0.kids (0 : Int)).bind fun x118 => 
                      (tree_differentiable K x118).bind fun r120 => 
                      some (!r120)) : Option Bool).bind (fun v114_0 => 
                if v114_0 then
                  outM (
                    outM (
                      some false))
                else
                  some (.go ()))) : Option (Out Unit _)).bind (Out.fin fun _ => 
              some (.go ((r12.2.getD []), (Tree_placeA.mk p1.inDiff true p1.inFlow))))
            else
              some (.go ((r12.2.getD []), p1)))) : Option (Out ((List Int) × Tree_placeA) _)).bind (Out.fin fun (v25_0, v25_1) => 
  if ((p0.kids.length : Int) != (v25_0.length : Int)) then
    some false
  else
    ((iter (S := Int) (R := Out Unit _) K (fun again i124_0 => 
      if (decide (i124_0 < (p0.kids.length : Int))) then
        ((
          (idx p0.kids i124_0).bind fun x131 => 
          ((
            (tree_Sort K x131.op).bind fun r135 => 
            (idx v25_0 i124_0).bind fun x137 => 
            if (r135 != x137) then
              some true
            else
              (self74 (x131, v25_1)).bind fun r140 => 
              some (!r140)) : Option Bool).bind (fun v133_0 => 
          if v133_0 then
            outM (
              outM (
                some false))
          else
            some (.go ()))) : Option (Out Unit _)).bind (Out.fin fun _ => 
        again (IntKind.wrap .i64 (i124_0 + (1 : Int))))
      else
        some (.go ())) (0 : Int)) : Option (Out Unit _)).bind (Out.fin fun _ => 
    if (p0.op == (8 : Int)) then
      (idx p0.kids (1 : Int)).bind fun x144 => 
      if (x144.op == (1 : Int)) then
        some (decide ((0 : Int) < (x144.num.num.length : Int)))
      else
        some false
    else
      if (p0.op == (9 : Int)) then
        (idx p0.kids (1 : Int)).bind fun x148 => 
        if (x148.op == (1 : Int)) then
          if ((x148.num.num.length : Int) == (0 : Int)) then
            some true
          else
            if ((x148.num.num.length : Int) == (1 : Int)) then
              (idx x148.num.num (0 : Int)).bind fun x153 => 
              some (decide (x153 ≤ (20 : Int)))
            else
              some false
        else
          some false
      else
        some true))))
set_option maxHeartbeats 4000000 in
theorem tree_formed_step (K : Nat) (self74 : (NodeA × Tree_placeA) → Option Bool) (hself74 : ∀ (q : NodeA × Tree_placeA) (r : Bool), self74 q = some r → Cn Try.prog 74 [aggV q.1.enc, aggV q.2.enc] (.d (.val (.bool r)))) (p0 : NodeA) (p1 : Tree_placeA) (r : Bool) (h : tree_formed_body K self74 p0 p1 = some r) : Cn Try.prog 74 [aggV p0.enc, aggV p1.enc] (.d (.val (.bool r))) := by
  refine Cn.ofA mixed Try.func74 rfl Try.call74 Try.ntmps74 Try.results74 (by simp) (by simp only [go_sem, Nat.reduceEqDiff, Nat.reduceAdd, Nat.reduceSub, Nat.reduceMul, Nat.reduceLeDiff, Nat.reduceLT, Nat.reduceBEq, reduceIte]) fun hfit => ?_
  unfold tree_formed_body at h
  refine AW.cut [] [(0, .agg [.d (.val (.int .i64 p0.op)), .d (.val (.string p0.name)), .d (.val (.bool p0.num.neg)), .d (slD u32V p0.num.num), .d (slD u32V p0.num.den), .d (slD NodeA.enc p0.kids)]), (1, .agg [.d (.val (.bool p1.inDiff)), .d (.val (.bool p1.inFDiff)), .d (.val (.bool p1.inFlow))])] [] (by simp only [go_sem, Nat.reduceEqDiff, Nat.reduceAdd, Nat.reduceSub, Nat.reduceMul, Nat.reduceLeDiff, Nat.reduceLT, Nat.reduceBEq, reduceIte]) ?_
  refine AW.one ?_
  refine AW.reg mixed (by kernel_rfl) ?_
  try simp only [go_sem, Nat.reduceEqDiff, Nat.reduceAdd, Nat.reduceSub, Nat.reduceMul, Nat.reduceLeDiff, Nat.reduceLT, Nat.reduceBEq, reduceIte]
  refine AW.cut [0, 1] [(2, .ptr 0 6 0 0), (3, .ptr 1 3 0 0)] [some ⟨6, [[.d (.val (.int .i64 p0.op)), .d (.val (.string p0.name)), .d (.val (.bool p0.num.neg)), .d (slD u32V p0.num.num), .d (slD u32V p0.num.den), .d (slD NodeA.enc p0.kids)]]⟩, some ⟨3, [[.d (.val (.bool p1.inDiff)), .d (.val (.bool p1.inFDiff)), .d (.val (.bool p1.inFlow))]]⟩] (by simp only [go_sem, Nat.reduceEqDiff, Nat.reduceAdd, Nat.reduceSub, Nat.reduceMul, Nat.reduceLeDiff, Nat.reduceLT, Nat.reduceBEq, reduceIte]) ?_
  refine AW.one ?_
  obtain ⟨oJ2, h, hJ2⟩ := obind h
  refine AW.join (S := Unit) (fun _ => [(2, .ptr 0 6 0 0), (3, .ptr 1 3 0 0)]) (fun _ => [some ⟨6, [[.d (.val (.int .i64 p0.op)), .d (.val (.string p0.name)), .d (.val (.bool p0.num.neg)), .d (slD u32V p0.num.num), .d (slD u32V p0.num.den), .d (slD NodeA.enc p0.kids)]]⟩, some ⟨3, [[.d (.val (.bool p1.inDiff)), .d (.val (.bool p1.inFDiff)), .d (.val (.bool p1.inFlow))]]⟩]) (fun x => oJ2 = .go x) ?_ ?_
  · skip
    refine AW.one ?_
    refine AW.reg mixed (by kernel_rfl) ?_
    try simp only [go_sem, Nat.reduceEqDiff, Nat.reduceAdd, Nat.reduceSub, Nat.reduceMul, Nat.reduceLeDiff, Nat.reduceLT, Nat.reduceBEq, reduceIte]
    refine AW.cut [0, 1] [(2, .ptr 0 6 0 0), (3, .ptr 1 3 0 0), (17, .d (.val (.bool (p0.op == (1 : Int)))))] [some ⟨6, [[.d (.val (.int .i64 p0.op)), .d (.val (.string p0.name)), .d (.val (.bool p0.num.neg)), .d (slD u32V p0.num.num), .d (slD u32V p0.num.den), .d (slD NodeA.enc p0.kids)]]⟩, some ⟨3, [[.d (.val (.bool p1.inDiff)), .d (.val (.bool p1.inFDiff)), .d (.val (.bool p1.inFlow))]]⟩] (by simp only [go_sem, Nat.reduceEqDiff, Nat.reduceAdd, Nat.reduceSub, Nat.reduceMul, Nat.reduceLeDiff, Nat.reduceLT, Nat.reduceBEq, reduceIte]) ?_
    refine AW.test (t := (p0.op == (1 : Int))) (by simp only [go_sem, Nat.reduceEqDiff, Nat.reduceAdd, Nat.reduceSub, Nat.reduceMul, Nat.reduceLeDiff, Nat.reduceLT, Nat.reduceBEq, reduceIte]) (fun hb3 => ?_) (fun hb3 => ?_)
    · have h := ifT hb3 h
      refine AW.one ?_
      refine AW.reg mixed (by kernel_rfl) ?_
      try simp only [go_sem, Nat.reduceEqDiff, Nat.reduceAdd, Nat.reduceSub, Nat.reduceMul, Nat.reduceLeDiff, Nat.reduceLT, Nat.reduceBEq, reduceIte]
      obtain ⟨r4, hx5, h⟩ := obind h
      have hc := tree_natural_ok (h := hx5)
      try simp only [NodeA.enc_eta, RatA.enc_eta, aggV, i64V, u32V, strV, List.map_cons, List.map_nil] at hc
      refine callK_pure hc (by simp only [go_sem, Nat.reduceEqDiff, Nat.reduceAdd, Nat.reduceSub, Nat.reduceMul, Nat.reduceLeDiff, Nat.reduceLT, Nat.reduceBEq, reduceIte]) ?_
      try simp only [go_sem, Nat.reduceEqDiff, Nat.reduceAdd, Nat.reduceSub, Nat.reduceMul, Nat.reduceLeDiff, Nat.reduceLT, Nat.reduceBEq, reduceIte]
      refine AW.cut [0, 1] [(2, .ptr 0 6 0 0), (3, .ptr 1 3 0 0), (21, .d (.val (.bool (!r4))))] [some ⟨6, [[.d (.val (.int .i64 p0.op)), .d (.val (.string p0.name)), .d (.val (.bool p0.num.neg)), .d (slD u32V p0.num.num), .d (slD u32V p0.num.den), .d (slD NodeA.enc p0.kids)]]⟩, some ⟨3, [[.d (.val (.bool p1.inDiff)), .d (.val (.bool p1.inFDiff)), .d (.val (.bool p1.inFlow))]]⟩] (by simp only [go_sem, Nat.reduceEqDiff, Nat.reduceAdd, Nat.reduceSub, Nat.reduceMul, Nat.reduceLeDiff, Nat.reduceLT, Nat.reduceBEq, reduceIte]) ?_
      refine AW.test (t := (!r4)) (by simp only [go_sem, Nat.reduceEqDiff, Nat.reduceAdd, Nat.reduceSub, Nat.reduceMul, Nat.reduceLeDiff, Nat.reduceLT, Nat.reduceBEq, reduceIte]) (fun hb6 => ?_) (fun hb6 => ?_)
      · have h := ifT hb6 h
        refine AW.one ?_
        refine AW.reg mixed (by kernel_rfl) ?_
        try simp only [go_sem, Nat.reduceEqDiff, Nat.reduceAdd, Nat.reduceSub, Nat.reduceMul, Nat.reduceLeDiff, Nat.reduceLT, Nat.reduceBEq, reduceIte]
        refine AW.ret ?_
        obtain ⟨_, h, ho⟩ := outM_some h
        rw [ho, Out.fin_out] at hJ2
        have h := h.trans hJ2
        obtain rfl := Option.some.inj h
        simp only [go_sem, Nat.reduceEqDiff, Nat.reduceAdd, Nat.reduceSub, Nat.reduceMul, Nat.reduceLeDiff, Nat.reduceLT, Nat.reduceBEq, reduceIte]
        exact .same _
      · have h := ifF hb6 h
        refine AW.skip ?_
        try simp only [go_sem, Nat.reduceEqDiff, Nat.reduceAdd, Nat.reduceSub, Nat.reduceMul, Nat.reduceLeDiff, Nat.reduceLT, Nat.reduceBEq, reduceIte]
        refine JoinQ.mk () [0, 1] (Option.some.inj h).symm (by simp only [go_sem, Nat.reduceEqDiff, Nat.reduceAdd, Nat.reduceSub, Nat.reduceMul, Nat.reduceLeDiff, Nat.reduceLT, Nat.reduceBEq, reduceIte])
    · have h := ifF hb3 h
      refine AW.one ?_
      obtain ⟨oJ8, h, hJ8⟩ := obind h
      refine AW.join (S := Bool) (fun v7_0 => [(2, .ptr 0 6 0 0), (3, .ptr 1 3 0 0), (38, .d (.val (.bool v7_0)))]) (fun v7_0 => [some ⟨6, [[.d (.val (.int .i64 p0.op)), .d (.val (.string p0.name)), .d (.val (.bool p0.num.neg)), .d (slD u32V p0.num.num), .d (slD u32V p0.num.den), .d (slD NodeA.enc p0.kids)]]⟩, some ⟨3, [[.d (.val (.bool p1.inDiff)), .d (.val (.bool p1.inFDiff)), .d (.val (.bool p1.inFlow))]]⟩]) (fun x => x = oJ8) ?_ ?_
      · skip
        refine AW.reg mixed (by kernel_rfl) ?_
        try simp only [go_sem, Nat.reduceEqDiff, Nat.reduceAdd, Nat.reduceSub, Nat.reduceMul, Nat.reduceLeDiff, Nat.reduceLT, Nat.reduceBEq, reduceIte]
        refine splitK_intro (fun hb9 => ?_) (fun hb9 => ?_)
        · have h := ifT hb9 h
          try simp only [go_sem, Nat.reduceEqDiff, Nat.reduceAdd, Nat.reduceSub, Nat.reduceMul, Nat.reduceLeDiff, Nat.reduceLT, Nat.reduceBEq, reduceIte, hb9]
          refine JoinQ.mk true [0, 1] (Option.some.inj h) (by simp only [go_sem, Nat.reduceEqDiff, Nat.reduceAdd, Nat.reduceSub, Nat.reduceMul, Nat.reduceLeDiff, Nat.reduceLT, Nat.reduceBEq, reduceIte, hb9])
        · have h := ifF hb9 h
          try simp only [go_sem, Nat.reduceEqDiff, Nat.reduceAdd, Nat.reduceSub, Nat.reduceMul, Nat.reduceLeDiff, Nat.reduceLT, Nat.reduceBEq, reduceIte, hb9]
          refine splitK_intro (fun hb10 => ?_) (fun hb10 => ?_)
          · have h := ifT hb10 h
            try simp only [go_sem, Nat.reduceEqDiff, Nat.reduceAdd, Nat.reduceSub, Nat.reduceMul, Nat.reduceLeDiff, Nat.reduceLT, Nat.reduceBEq, reduceIte, hb9, hb10]
            refine JoinQ.mk true [0, 1] (Option.some.inj h) (by simp only [go_sem, Nat.reduceEqDiff, Nat.reduceAdd, Nat.reduceSub, Nat.reduceMul, Nat.reduceLeDiff, Nat.reduceLT, Nat.reduceBEq, reduceIte, hb9, hb10])
          · have h := ifF hb10 h
            try simp only [go_sem, Nat.reduceEqDiff, Nat.reduceAdd, Nat.reduceSub, Nat.reduceMul, Nat.reduceLeDiff, Nat.reduceLT, Nat.reduceBEq, reduceIte, hb9, hb10]
            refine JoinQ.mk (decide ((0 : Int) < (p0.num.den.length : Int))) [0, 1] (Option.some.inj h) (by simp only [go_sem, Nat.reduceEqDiff, Nat.reduceAdd, Nat.reduceSub, Nat.reduceMul, Nat.reduceLeDiff, Nat.reduceLT, Nat.reduceBEq, reduceIte, hb9, hb10])
      · rintro v7_0 rfl
        have h := hJ8
        try dsimp only [Out.fin] at h
        simp only [go_sem, Nat.reduceEqDiff, Nat.reduceAdd, Nat.reduceSub, Nat.reduceMul, Nat.reduceLeDiff, Nat.reduceLT, Nat.reduceBEq, reduceIte]
        refine AW.test (t := v7_0) (by simp only [go_sem, Nat.reduceEqDiff, Nat.reduceAdd, Nat.reduceSub, Nat.reduceMul, Nat.reduceLeDiff, Nat.reduceLT, Nat.reduceBEq, reduceIte]) (fun hb11 => ?_) (fun hb11 => ?_)
        · have h := ifT hb11 h
          refine AW.one ?_
          refine AW.reg mixed (by kernel_rfl) ?_
          try simp only [go_sem, Nat.reduceEqDiff, Nat.reduceAdd, Nat.reduceSub, Nat.reduceMul, Nat.reduceLeDiff, Nat.reduceLT, Nat.reduceBEq, reduceIte]
          refine AW.ret ?_
          obtain ⟨_, h, ho⟩ := outM_some h
          rw [ho, Out.fin_out] at hJ2
          have h := h.trans hJ2
          obtain rfl := Option.some.inj h
          simp only [go_sem, Nat.reduceEqDiff, Nat.reduceAdd, Nat.reduceSub, Nat.reduceMul, Nat.reduceLeDiff, Nat.reduceLT, Nat.reduceBEq, reduceIte]
          exact .same _
        · have h := ifF hb11 h
          refine AW.skip ?_
          try simp only [go_sem, Nat.reduceEqDiff, Nat.reduceAdd, Nat.reduceSub, Nat.reduceMul, Nat.reduceLeDiff, Nat.reduceLT, Nat.reduceBEq, reduceIte]
          refine JoinQ.mk () [0, 1] (Option.some.inj h).symm (by simp only [go_sem, Nat.reduceEqDiff, Nat.reduceAdd, Nat.reduceSub, Nat.reduceMul, Nat.reduceLeDiff, Nat.reduceLT, Nat.reduceBEq, reduceIte])
  · rintro ⟨⟩ rfl
    have h := hJ2
    try dsimp only [Out.fin] at h
    simp only [go_sem, Nat.reduceEqDiff, Nat.reduceAdd, Nat.reduceSub, Nat.reduceMul, Nat.reduceLeDiff, Nat.reduceLT, Nat.reduceBEq, reduceIte]
    refine AW.one ?_
    refine AW.reg mixed (by kernel_rfl) ?_
    try simp only [go_sem, Nat.reduceEqDiff, Nat.reduceAdd, Nat.reduceSub, Nat.reduceMul, Nat.reduceLeDiff, Nat.reduceLT, Nat.reduceBEq, reduceIte]
    obtain ⟨r12, hx13, h⟩ := obind h
    have hc := tree_shape_ok (h := hx13)
    try simp only [NodeA.enc_eta, RatA.enc_eta, aggV, i64V, u32V, strV, List.map_cons, List.map_nil] at hc
    refine callK_pure hc (by simp only [go_sem, Nat.reduceEqDiff, Nat.reduceAdd, Nat.reduceSub, Nat.reduceMul, Nat.reduceLeDiff, Nat.reduceLT, Nat.reduceBEq, reduceIte]) ?_
    try simp only [go_sem, Nat.reduceEqDiff, Nat.reduceAdd, Nat.reduceSub, Nat.reduceMul, Nat.reduceLeDiff, Nat.reduceLT, Nat.reduceBEq, reduceIte]
    refine AW.cut [0, 1] [(2, .ptr 0 6 0 0), (3, .ptr 1 3 0 0), (5, .d (.val (.bool r12.1))), (6, nilV i64V r12.2)] [some ⟨6, [[.d (.val (.int .i64 p0.op)), .d (.val (.string p0.name)), .d (.val (.bool p0.num.neg)), .d (slD u32V p0.num.num), .d (slD u32V p0.num.den), .d (slD NodeA.enc p0.kids)]]⟩, some ⟨3, [[.d (.val (.bool p1.inDiff)), .d (.val (.bool p1.inFDiff)), .d (.val (.bool p1.inFlow))]]⟩] (by simp only [go_sem, Nat.reduceEqDiff, Nat.reduceAdd, Nat.reduceSub, Nat.reduceMul, Nat.reduceLeDiff, Nat.reduceLT, Nat.reduceBEq, reduceIte]) ?_
    refine AW.one ?_
    obtain ⟨oJ15, h, hJ15⟩ := obind h
    refine AW.join (S := Unit) (fun _ => [(2, .ptr 0 6 0 0), (3, .ptr 1 3 0 0), (6, nilV i64V r12.2)]) (fun _ => [some ⟨6, [[.d (.val (.int .i64 p0.op)), .d (.val (.string p0.name)), .d (.val (.bool p0.num.neg)), .d (slD u32V p0.num.num), .d (slD u32V p0.num.den), .d (slD NodeA.enc p0.kids)]]⟩, some ⟨3, [[.d (.val (.bool p1.inDiff)), .d (.val (.bool p1.inFDiff)), .d (.val (.bool p1.inFlow))]]⟩]) (fun x => oJ15 = .go x) ?_ ?_
    · skip
      refine AW.one ?_
      obtain ⟨oJ17, h, hJ17⟩ := obind h
      refine AW.join (S := Bool) (fun v16_0 => [(2, .ptr 0 6 0 0), (3, .ptr 1 3 0 0), (6, nilV i64V r12.2), (70, .d (.val (.bool v16_0)))]) (fun v16_0 => [some ⟨6, [[.d (.val (.int .i64 p0.op)), .d (.val (.string p0.name)), .d (.val (.bool p0.num.neg)), .d (slD u32V p0.num.num), .d (slD u32V p0.num.den), .d (slD NodeA.enc p0.kids)]]⟩, some ⟨3, [[.d (.val (.bool p1.inDiff)), .d (.val (.bool p1.inFDiff)), .d (.val (.bool p1.inFlow))]]⟩]) (fun x => x = oJ17) ?_ ?_
      · skip
        refine AW.reg mixed (by kernel_rfl) ?_
        try simp only [go_sem, Nat.reduceEqDiff, Nat.reduceAdd, Nat.reduceSub, Nat.reduceMul, Nat.reduceLeDiff, Nat.reduceLT, Nat.reduceBEq, reduceIte]
        refine splitK_intro (fun hb18 => ?_) (fun hb18 => ?_)
        · have h := ifT hb18 h
          try simp only [go_sem, Nat.reduceEqDiff, Nat.reduceAdd, Nat.reduceSub, Nat.reduceMul, Nat.reduceLeDiff, Nat.reduceLT, Nat.reduceBEq, reduceIte, hb18]
          obtain ⟨r19, hx20, h⟩ := obind h
          have hc := tree_Name_ok (h := hx20)
          try simp only [NodeA.enc_eta, RatA.enc_eta, aggV, i64V, u32V, strV, List.map_cons, List.map_nil] at hc
          refine callK_pure hc (by simp only [go_sem, Nat.reduceEqDiff, Nat.reduceAdd, Nat.reduceSub, Nat.reduceMul, Nat.reduceLeDiff, Nat.reduceLT, Nat.reduceBEq, reduceIte]) ?_
          try simp only [go_sem, Nat.reduceEqDiff, Nat.reduceAdd, Nat.reduceSub, Nat.reduceMul, Nat.reduceLeDiff, Nat.reduceLT, Nat.reduceBEq, reduceIte, hb18]
          refine splitK_intro (fun hb21 => ?_) (fun hb21 => ?_)
          · have h := ifT hb21 h
            try simp only [go_sem, Nat.reduceEqDiff, Nat.reduceAdd, Nat.reduceSub, Nat.reduceMul, Nat.reduceLeDiff, Nat.reduceLT, Nat.reduceBEq, reduceIte, hb18, hb21]
            refine JoinQ.mk true [0, 1] (Option.some.inj h) (by simp only [go_sem, Nat.reduceEqDiff, Nat.reduceAdd, Nat.reduceSub, Nat.reduceMul, Nat.reduceLeDiff, Nat.reduceLT, Nat.reduceBEq, reduceIte, hb18, hb21])
          · have h := ifF hb21 h
            try simp only [go_sem, Nat.reduceEqDiff, Nat.reduceAdd, Nat.reduceSub, Nat.reduceMul, Nat.reduceLeDiff, Nat.reduceLT, Nat.reduceBEq, reduceIte, hb18, hb21]
            refine JoinQ.mk false [0, 1] (Option.some.inj h) (by simp only [go_sem, Nat.reduceEqDiff, Nat.reduceAdd, Nat.reduceSub, Nat.reduceMul, Nat.reduceLeDiff, Nat.reduceLT, Nat.reduceBEq, reduceIte, hb18, hb21])
        · have h := ifF hb18 h
          try simp only [go_sem, Nat.reduceEqDiff, Nat.reduceAdd, Nat.reduceSub, Nat.reduceMul, Nat.reduceLeDiff, Nat.reduceLT, Nat.reduceBEq, reduceIte, hb18]
          refine splitK_intro (fun hb22 => ?_) (fun hb22 => ?_)
          · have h := ifT hb22 h
            try simp only [go_sem, Nat.reduceEqDiff, Nat.reduceAdd, Nat.reduceSub, Nat.reduceMul, Nat.reduceLeDiff, Nat.reduceLT, Nat.reduceBEq, reduceIte, hb18, hb22]
            refine splitK_intro (fun hb23 => ?_) (fun hb23 => ?_)
            · have h := ifT hb23 h
              try simp only [go_sem, Nat.reduceEqDiff, Nat.reduceAdd, Nat.reduceSub, Nat.reduceMul, Nat.reduceLeDiff, Nat.reduceLT, Nat.reduceBEq, reduceIte, hb18, hb22, hb23]
              refine JoinQ.mk (p0.op != (37 : Int)) [0, 1] (Option.some.inj h) (by simp only [go_sem, Nat.reduceEqDiff, Nat.reduceAdd, Nat.reduceSub, Nat.reduceMul, Nat.reduceLeDiff, Nat.reduceLT, Nat.reduceBEq, reduceIte, hb18, hb22, hb23])
            · have h := ifF hb23 h
              try simp only [go_sem, Nat.reduceEqDiff, Nat.reduceAdd, Nat.reduceSub, Nat.reduceMul, Nat.reduceLeDiff, Nat.reduceLT, Nat.reduceBEq, reduceIte, hb18, hb22, hb23]
              refine JoinQ.mk false [0, 1] (Option.some.inj h) (by simp only [go_sem, Nat.reduceEqDiff, Nat.reduceAdd, Nat.reduceSub, Nat.reduceMul, Nat.reduceLeDiff, Nat.reduceLT, Nat.reduceBEq, reduceIte, hb18, hb22, hb23])
          · have h := ifF hb22 h
            try simp only [go_sem, Nat.reduceEqDiff, Nat.reduceAdd, Nat.reduceSub, Nat.reduceMul, Nat.reduceLeDiff, Nat.reduceLT, Nat.reduceBEq, reduceIte, hb18, hb22]
            refine JoinQ.mk false [0, 1] (Option.some.inj h) (by simp only [go_sem, Nat.reduceEqDiff, Nat.reduceAdd, Nat.reduceSub, Nat.reduceMul, Nat.reduceLeDiff, Nat.reduceLT, Nat.reduceBEq, reduceIte, hb18, hb22])
      · rintro v16_0 rfl
        have h := hJ17
        try dsimp only [Out.fin] at h
        simp only [go_sem, Nat.reduceEqDiff, Nat.reduceAdd, Nat.reduceSub, Nat.reduceMul, Nat.reduceLeDiff, Nat.reduceLT, Nat.reduceBEq, reduceIte]
        refine AW.test (t := v16_0) (by simp only [go_sem, Nat.reduceEqDiff, Nat.reduceAdd, Nat.reduceSub, Nat.reduceMul, Nat.reduceLeDiff, Nat.reduceLT, Nat.reduceBEq, reduceIte]) (fun hb24 => ?_) (fun hb24 => ?_)
        · have h := ifT hb24 h
          refine AW.one ?_
          refine AW.reg mixed (by kernel_rfl) ?_
          try simp only [go_sem, Nat.reduceEqDiff, Nat.reduceAdd, Nat.reduceSub, Nat.reduceMul, Nat.reduceLeDiff, Nat.reduceLT, Nat.reduceBEq, reduceIte]
          refine AW.ret ?_
          obtain ⟨_, h, ho⟩ := outM_some h
          rw [ho, Out.fin_out] at hJ15
          have h := h.trans hJ15
          obtain rfl := Option.some.inj h
          simp only [go_sem, Nat.reduceEqDiff, Nat.reduceAdd, Nat.reduceSub, Nat.reduceMul, Nat.reduceLeDiff, Nat.reduceLT, Nat.reduceBEq, reduceIte]
          exact .same _
        · have h := ifF hb24 h
          refine AW.skip ?_
          try simp only [go_sem, Nat.reduceEqDiff, Nat.reduceAdd, Nat.reduceSub, Nat.reduceMul, Nat.reduceLeDiff, Nat.reduceLT, Nat.reduceBEq, reduceIte]
          refine JoinQ.mk () [0, 1] (Option.some.inj h).symm (by simp only [go_sem, Nat.reduceEqDiff, Nat.reduceAdd, Nat.reduceSub, Nat.reduceMul, Nat.reduceLeDiff, Nat.reduceLT, Nat.reduceBEq, reduceIte])
    · rintro ⟨⟩ rfl
      have h := hJ15
      try dsimp only [Out.fin] at h
      simp only [go_sem, Nat.reduceEqDiff, Nat.reduceAdd, Nat.reduceSub, Nat.reduceMul, Nat.reduceLeDiff, Nat.reduceLT, Nat.reduceBEq, reduceIte]
      refine AW.one ?_
      obtain ⟨oJ26, h, hJ26⟩ := obind h
      refine AW.join (S := (List Int) × Tree_placeA) (fun (v25_0, v25_1) => [(2, .ptr 0 6 0 0), (3, .ptr 1 3 0 0), (6, .d (slD i64V v25_0))]) (fun (v25_0, v25_1) => [some ⟨6, [[.d (.val (.int .i64 p0.op)), .d (.val (.string p0.name)), .d (.val (.bool p0.num.neg)), .d (slD u32V p0.num.num), .d (slD u32V p0.num.den), .d (slD NodeA.enc p0.kids)]]⟩, some ⟨3, [[.d (.val (.bool v25_1.inDiff)), .d (.val (.bool v25_1.inFDiff)), .d (.val (.bool v25_1.inFlow))]]⟩]) (fun x => oJ26 = .go x) ?_ ?_
      · skip
        refine AW.one ?_
        refine AW.reg mixed (by kernel_rfl) ?_
        try simp only [go_sem, Nat.reduceEqDiff, Nat.reduceAdd, Nat.reduceSub, Nat.reduceMul, Nat.reduceLeDiff, Nat.reduceLT, Nat.reduceBEq, reduceIte]
        refine AW.cut [0, 1] [(2, .ptr 0 6 0 0), (3, .ptr 1 3 0 0), (6, nilV i64V r12.2), (72, .d (.val (.int .i64 p0.op)))] [some ⟨6, [[.d (.val (.int .i64 p0.op)), .d (.val (.string p0.name)), .d (.val (.bool p0.num.neg)), .d (slD u32V p0.num.num), .d (slD u32V p0.num.den), .d (slD NodeA.enc p0.kids)]]⟩, some ⟨3, [[.d (.val (.bool p1.inDiff)), .d (.val (.bool p1.inFDiff)), .d (.val (.bool p1.inFlow))]]⟩] (by simp only [go_sem, Nat.reduceEqDiff, Nat.reduceAdd, Nat.reduceSub, Nat.reduceMul, Nat.reduceLeDiff, Nat.reduceLT, Nat.reduceBEq, reduceIte]) ?_
        refine AW.block ?_
        refine AW.one ?_
        obtain ⟨oJ28, h, hJ28⟩ := obind h
        refine AW.join (S := Bool) (fun v27_0 => [(2, .ptr 0 6 0 0), (3, .ptr 1 3 0 0), (6, nilV i64V r12.2), (72, .d (.val (.int .i64 p0.op))), (73, .d (.val (.bool v27_0)))]) (fun v27_0 => [some ⟨6, [[.d (.val (.int .i64 p0.op)), .d (.val (.string p0.name)), .d (.val (.bool p0.num.neg)), .d (slD u32V p0.num.num), .d (slD u32V p0.num.den), .d (slD NodeA.enc p0.kids)]]⟩, some ⟨3, [[.d (.val (.bool p1.inDiff)), .d (.val (.bool p1.inFDiff)), .d (.val (.bool p1.inFlow))]]⟩]) (fun x => x = oJ28) ?_ ?_
        · skip
          refine AW.one ?_
          refine AW.reg mixed (by kernel_rfl) ?_
          try simp only [go_sem, Nat.reduceEqDiff, Nat.reduceAdd, Nat.reduceSub, Nat.reduceMul, Nat.reduceLeDiff, Nat.reduceLT, Nat.reduceBEq, reduceIte]
          refine AW.cut [0, 1] [(2, .ptr 0 6 0 0), (3, .ptr 1 3 0 0), (6, nilV i64V r12.2), (72, .d (.val (.int .i64 p0.op))), (73, .d (.val (.bool (p0.op == (10 : Int)))))] [some ⟨6, [[.d (.val (.int .i64 p0.op)), .d (.val (.string p0.name)), .d (.val (.bool p0.num.neg)), .d (slD u32V p0.num.num), .d (slD u32V p0.num.den), .d (slD NodeA.enc p0.kids)]]⟩, some ⟨3, [[.d (.val (.bool p1.inDiff)), .d (.val (.bool p1.inFDiff)), .d (.val (.bool p1.inFlow))]]⟩] (by simp only [go_sem, Nat.reduceEqDiff, Nat.reduceAdd, Nat.reduceSub, Nat.reduceMul, Nat.reduceLeDiff, Nat.reduceLT, Nat.reduceBEq, reduceIte]) ?_
          refine AW.test (t := (p0.op == (10 : Int))) (by simp only [go_sem, Nat.reduceEqDiff, Nat.reduceAdd, Nat.reduceSub, Nat.reduceMul, Nat.reduceLeDiff, Nat.reduceLT, Nat.reduceBEq, reduceIte]) (fun hb29 => ?_) (fun hb29 => ?_)
          · have h := ifT hb29 h
            refine AW.skip ?_
            try simp only [go_sem, Nat.reduceEqDiff, Nat.reduceAdd, Nat.reduceSub, Nat.reduceMul, Nat.reduceLeDiff, Nat.reduceLT, Nat.reduceBEq, reduceIte]
            refine JoinQ.mk (p0.op == (10 : Int)) [0, 1] (Option.some.inj h) (by simp only [go_sem, Nat.reduceEqDiff, Nat.reduceAdd, Nat.reduceSub, Nat.reduceMul, Nat.reduceLeDiff, Nat.reduceLT, Nat.reduceBEq, reduceIte])
          · have h := ifF hb29 h
            refine AW.reg mixed (by kernel_rfl) ?_
            try simp only [go_sem, Nat.reduceEqDiff, Nat.reduceAdd, Nat.reduceSub, Nat.reduceMul, Nat.reduceLeDiff, Nat.reduceLT, Nat.reduceBEq, reduceIte]
            refine JoinQ.mk (p0.op == (37 : Int)) [0, 1] (Option.some.inj h) (by simp only [go_sem, Nat.reduceEqDiff, Nat.reduceAdd, Nat.reduceSub, Nat.reduceMul, Nat.reduceLeDiff, Nat.reduceLT, Nat.reduceBEq, reduceIte])
        · rintro v27_0 rfl
          have h := hJ28
          try dsimp only [Out.fin] at h
          simp only [go_sem, Nat.reduceEqDiff, Nat.reduceAdd, Nat.reduceSub, Nat.reduceMul, Nat.reduceLeDiff, Nat.reduceLT, Nat.reduceBEq, reduceIte]
          refine AW.test (t := v27_0) (by simp only [go_sem, Nat.reduceEqDiff, Nat.reduceAdd, Nat.reduceSub, Nat.reduceMul, Nat.reduceLeDiff, Nat.reduceLT, Nat.reduceBEq, reduceIte]) (fun hb30 => ?_) (fun hb30 => ?_)
          · have h := ifT hb30 h
            refine AW.one ?_
            obtain ⟨oJ32, h, hJ32⟩ := obind h
            refine AW.join (S := Unit) (fun _ => [(2, .ptr 0 6 0 0), (3, .ptr 1 3 0 0), (6, nilV i64V r12.2)]) (fun _ => [some ⟨6, [[.d (.val (.int .i64 p0.op)), .d (.val (.string p0.name)), .d (.val (.bool p0.num.neg)), .d (slD u32V p0.num.num), .d (slD u32V p0.num.den), .d (slD NodeA.enc p0.kids)]]⟩, some ⟨3, [[.d (.val (.bool p1.inDiff)), .d (.val (.bool p1.inFDiff)), .d (.val (.bool p1.inFlow))]]⟩]) (fun x => oJ32 = .go x) ?_ ?_
            · skip
              refine AW.one ?_
              obtain ⟨oJ34, h, hJ34⟩ := obind h
              refine AW.join (S := Bool) (fun v33_0 => [(2, .ptr 0 6 0 0), (3, .ptr 1 3 0 0), (6, nilV i64V r12.2), (85, .d (.val (.bool v33_0)))]) (fun v33_0 => [some ⟨6, [[.d (.val (.int .i64 p0.op)), .d (.val (.string p0.name)), .d (.val (.bool p0.num.neg)), .d (slD u32V p0.num.num), .d (slD u32V p0.num.den), .d (slD NodeA.enc p0.kids)]]⟩, some ⟨3, [[.d (.val (.bool p1.inDiff)), .d (.val (.bool p1.inFDiff)), .d (.val (.bool p1.inFlow))]]⟩]) (fun x => x = oJ34) ?_ ?_
              · skip
                refine AW.reg mixed (by kernel_rfl) ?_
                try simp only [go_sem, Nat.reduceEqDiff, Nat.reduceAdd, Nat.reduceSub, Nat.reduceMul, Nat.reduceLeDiff, Nat.reduceLT, Nat.reduceBEq, reduceIte]
                obtain ⟨r35, hx36, h⟩ := obind h
                have hc := tree_Name_ok (h := hx36)
                try simp only [NodeA.enc_eta, RatA.enc_eta, aggV, i64V, u32V, strV, List.map_cons, List.map_nil] at hc
                refine callK_pure hc (by simp only [go_sem, Nat.reduceEqDiff, Nat.reduceAdd, Nat.reduceSub, Nat.reduceMul, Nat.reduceLeDiff, Nat.reduceLT, Nat.reduceBEq, reduceIte]) ?_
                try simp only [go_sem, Nat.reduceEqDiff, Nat.reduceAdd, Nat.reduceSub, Nat.reduceMul, Nat.reduceLeDiff, Nat.reduceLT, Nat.reduceBEq, reduceIte]
                refine splitK_intro (fun hb37 => ?_) (fun hb37 => ?_)
                · have h := ifT hb37 h
                  try simp only [go_sem, Nat.reduceEqDiff, Nat.reduceAdd, Nat.reduceSub, Nat.reduceMul, Nat.reduceLeDiff, Nat.reduceLT, Nat.reduceBEq, reduceIte, hb37]
                  refine JoinQ.mk true [0, 1] (Option.some.inj h) (by simp only [go_sem, Nat.reduceEqDiff, Nat.reduceAdd, Nat.reduceSub, Nat.reduceMul, Nat.reduceLeDiff, Nat.reduceLT, Nat.reduceBEq, reduceIte, hb37])
                · have h := ifF hb37 h
                  try simp only [go_sem, Nat.reduceEqDiff, Nat.reduceAdd, Nat.reduceSub, Nat.reduceMul, Nat.reduceLeDiff, Nat.reduceLT, Nat.reduceBEq, reduceIte, hb37]
                  refine JoinQ.mk (decide ((1 : Int) < (p0.kids.length : Int))) [0, 1] (Option.some.inj h) (by simp only [go_sem, Nat.reduceEqDiff, Nat.reduceAdd, Nat.reduceSub, Nat.reduceMul, Nat.reduceLeDiff, Nat.reduceLT, Nat.reduceBEq, reduceIte, hb37])
              · rintro v33_0 rfl
                have h := hJ34
                try dsimp only [Out.fin] at h
                simp only [go_sem, Nat.reduceEqDiff, Nat.reduceAdd, Nat.reduceSub, Nat.reduceMul, Nat.reduceLeDiff, Nat.reduceLT, Nat.reduceBEq, reduceIte]
                refine AW.test (t := v33_0) (by simp only [go_sem, Nat.reduceEqDiff, Nat.reduceAdd, Nat.reduceSub, Nat.reduceMul, Nat.reduceLeDiff, Nat.reduceLT, Nat.reduceBEq, reduceIte]) (fun hb38 => ?_) (fun hb38 => ?_)
                · have h := ifT hb38 h
                  refine AW.one ?_
                  refine AW.reg mixed (by kernel_rfl) ?_
                  try simp only [go_sem, Nat.reduceEqDiff, Nat.reduceAdd, Nat.reduceSub, Nat.reduceMul, Nat.reduceLeDiff, Nat.reduceLT, Nat.reduceBEq, reduceIte]
                  refine AW.ret ?_
                  obtain ⟨_, h, ho⟩ := outM_some h
                  rw [ho, Out.fin_out] at hJ32
                  have h := h.trans hJ32
                  obtain ⟨_, h, ho⟩ := outM_some h
                  rw [ho, Out.fin_out] at hJ26
                  have h := h.trans hJ26
                  obtain rfl := Option.some.inj h
                  simp only [go_sem, Nat.reduceEqDiff, Nat.reduceAdd, Nat.reduceSub, Nat.reduceMul, Nat.reduceLeDiff, Nat.reduceLT, Nat.reduceBEq, reduceIte]
                  exact .same _
                · have h := ifF hb38 h
                  refine AW.skip ?_
                  try simp only [go_sem, Nat.reduceEqDiff, Nat.reduceAdd, Nat.reduceSub, Nat.reduceMul, Nat.reduceLeDiff, Nat.reduceLT, Nat.reduceBEq, reduceIte]
                  refine JoinQ.mk () [0, 1] (Option.some.inj h).symm (by simp only [go_sem, Nat.reduceEqDiff, Nat.reduceAdd, Nat.reduceSub, Nat.reduceMul, Nat.reduceLeDiff, Nat.reduceLT, Nat.reduceBEq, reduceIte])
            · rintro ⟨⟩ rfl
              have h := hJ32
              try dsimp only [Out.fin] at h
              simp only [go_sem, Nat.reduceEqDiff, Nat.reduceAdd, Nat.reduceSub, Nat.reduceMul, Nat.reduceLeDiff, Nat.reduceLT, Nat.reduceBEq, reduceIte]
              refine AW.one ?_
              refine AW.reg mixed (by kernel_rfl) ?_
              try simp only [go_sem, Nat.reduceEqDiff, Nat.reduceAdd, Nat.reduceSub, Nat.reduceMul, Nat.reduceLeDiff, Nat.reduceLT, Nat.reduceBEq, reduceIte]
              refine AW.cut [0, 1] [(2, .ptr 0 6 0 0), (3, .ptr 1 3 0 0), (6, nilV i64V r12.2), (88, .d (.val (.int .i64 (p0.kids.length : Int)))), (89, .d (.val (.int .i64 (0 : Int))))] [some ⟨6, [[.d (.val (.int .i64 p0.op)), .d (.val (.string p0.name)), .d (.val (.bool p0.num.neg)), .d (slD u32V p0.num.num), .d (slD u32V p0.num.den), .d (slD NodeA.enc p0.kids)]]⟩, some ⟨3, [[.d (.val (.bool p1.inDiff)), .d (.val (.bool p1.inFDiff)), .d (.val (.bool p1.inFlow))]]⟩] (by simp only [go_sem, Nat.reduceEqDiff, Nat.reduceAdd, Nat.reduceSub, Nat.reduceMul, Nat.reduceLeDiff, Nat.reduceLT, Nat.reduceBEq, reduceIte]) ?_
              obtain ⟨_, hx43, h⟩ := obind h
              refine AW.cut [0, 1] [(2, .ptr 0 6 0 0), (3, .ptr 1 3 0 0), (6, .d (.val (.slice none 0 0))), (88, .d (.val (.int .i64 (p0.kids.length : Int)))), (89, .d (.val (.int .i64 (0 : Int))))] [some ⟨6, [[.d (.val (.int .i64 p0.op)), .d (.val (.string p0.name)), .d (.val (.bool p0.num.neg)), .d (slD u32V p0.num.num), .d (slD u32V p0.num.den), .d (slD NodeA.enc p0.kids)]]⟩, some ⟨3, [[.d (.val (.bool p1.inDiff)), .d (.val (.bool p1.inFDiff)), .d (.val (.bool p1.inFlow))]]⟩] (by simp only [go_sem, Nat.reduceEqDiff, Nat.reduceAdd, Nat.reduceSub, Nat.reduceMul, Nat.reduceLeDiff, Nat.reduceLT, Nat.reduceBEq, reduceIte, must_none hx43]) ?_
              obtain ⟨oJ47, h, hJ47⟩ := obind h
              refine AW.join (S := (List Int)) (fun e45_0 => [(2, .ptr 0 6 0 0), (3, .ptr 1 3 0 0), (6, accV 2 1 ((e45_0.map i64V).map (·.map .d)))]) (fun e45_0 => [some ⟨6, [[.d (.val (.int .i64 p0.op)), .d (.val (.string p0.name)), .d (.val (.bool p0.num.neg)), .d (slD u32V p0.num.num), .d (slD u32V p0.num.den), .d (slD NodeA.enc p0.kids)]]⟩, some ⟨3, [[.d (.val (.bool p1.inDiff)), .d (.val (.bool p1.inFDiff)), .d (.val (.bool p1.inFlow))]]⟩, accO 1 ((e45_0.map i64V).map (·.map .d))]) (fun x => x = oJ47) ?_ ?_
              · refine AW.block ?_
                refine AW.iter (S := Int × (List Int)) (fun (i44_0, i44_1) => [(2, .ptr 0 6 0 0), (3, .ptr 1 3 0 0), (6, accV 2 1 ((i44_1.map i64V).map (·.map .d))), (88, .d (.val (.int .i64 (p0.kids.length : Int)))), (89, .d (.val (.int .i64 i44_0)))]) (fun (i44_0, i44_1) => [some ⟨6, [[.d (.val (.int .i64 p0.op)), .d (.val (.string p0.name)), .d (.val (.bool p0.num.neg)), .d (slD u32V p0.num.num), .d (slD u32V p0.num.den), .d (slD NodeA.enc p0.kids)]]⟩, some ⟨3, [[.d (.val (.bool p1.inDiff)), .d (.val (.bool p1.inFDiff)), .d (.val (.bool p1.inFlow))]]⟩, accO 1 ((i44_1.map i64V).map (·.map .d))]) [0, 1, 1002] h (by simp only [go_sem, Nat.reduceEqDiff, Nat.reduceAdd, Nat.reduceSub, Nat.reduceMul, Nat.reduceLeDiff, Nat.reduceLT, Nat.reduceBEq, reduceIte]) ?_
                rintro again ⟨i44_0, i44_1⟩ h
                try dsimp only at h
                refine AW.one ?_
                refine AW.reg mixed (by kernel_rfl) ?_
                try simp only [go_sem, Nat.reduceEqDiff, Nat.reduceAdd, Nat.reduceSub, Nat.reduceMul, Nat.reduceLeDiff, Nat.reduceLT, Nat.reduceBEq, reduceIte]
                refine AW.cut [0, 1, 2] [(2, .ptr 0 6 0 0), (3, .ptr 1 3 0 0), (6, accV 2 1 ((i44_1.map i64V).map (·.map .d))), (88, .d (.val (.int .i64 (p0.kids.length : Int)))), (89, .d (.val (.int .i64 i44_0))), (90, .d (.val (.bool (decide (i44_0 < (p0.kids.length : Int))))))] [some ⟨6, [[.d (.val (.int .i64 p0.op)), .d (.val (.string p0.name)), .d (.val (.bool p0.num.neg)), .d (slD u32V p0.num.num), .d (slD u32V p0.num.den), .d (slD NodeA.enc p0.kids)]]⟩, some ⟨3, [[.d (.val (.bool p1.inDiff)), .d (.val (.bool p1.inFDiff)), .d (.val (.bool p1.inFlow))]]⟩, accO 1 ((i44_1.map i64V).map (·.map .d))] (by simp only [go_sem, Nat.reduceEqDiff, Nat.reduceAdd, Nat.reduceSub, Nat.reduceMul, Nat.reduceLeDiff, Nat.reduceLT, Nat.reduceBEq, reduceIte]) ?_
                refine AW.one ?_
                refine AW.test (t := (decide (i44_0 < (p0.kids.length : Int)))) (by simp only [go_sem, Nat.reduceEqDiff, Nat.reduceAdd, Nat.reduceSub, Nat.reduceMul, Nat.reduceLeDiff, Nat.reduceLT, Nat.reduceBEq, reduceIte]) (fun hb48 => ?_) (fun hb48 => ?_)
                · have h := ifT hb48 h
                  refine AW.skip ?_
                  try simp only [go_sem, Nat.reduceEqDiff, Nat.reduceAdd, Nat.reduceSub, Nat.reduceMul, Nat.reduceLeDiff, Nat.reduceLT, Nat.reduceBEq, reduceIte]
                  refine AW.cut [0, 1, 2] [(2, .ptr 0 6 0 0), (3, .ptr 1 3 0 0), (6, accV 2 1 ((i44_1.map i64V).map (·.map .d))), (88, .d (.val (.int .i64 (p0.kids.length : Int)))), (89, .d (.val (.int .i64 i44_0)))] [some ⟨6, [[.d (.val (.int .i64 p0.op)), .d (.val (.string p0.name)), .d (.val (.bool p0.num.neg)), .d (slD u32V p0.num.num), .d (slD u32V p0.num.den), .d (slD NodeA.enc p0.kids)]]⟩, some ⟨3, [[.d (.val (.bool p1.inDiff)), .d (.val (.bool p1.inFDiff)), .d (.val (.bool p1.inFlow))]]⟩, accO 1 ((i44_1.map i64V).map (·.map .d))] (by simp only [go_sem, Nat.reduceEqDiff, Nat.reduceAdd, Nat.reduceSub, Nat.reduceMul, Nat.reduceLeDiff, Nat.reduceLT, Nat.reduceBEq, reduceIte]) ?_
                  refine AW.one ?_
                  refine AW.block ?_
                  refine AW.reg mixed (by kernel_rfl) ?_
                  try simp only [go_sem, Nat.reduceEqDiff, Nat.reduceAdd, Nat.reduceSub, Nat.reduceMul, Nat.reduceLeDiff, Nat.reduceLT, Nat.reduceBEq, reduceIte]
                  obtain ⟨l49, hx50, h⟩ := obind h
                  refine appG hx50 rfl (by simp only [go_sem, Nat.reduceEqDiff, Nat.reduceAdd, Nat.reduceSub, Nat.reduceMul, Nat.reduceLeDiff, Nat.reduceLT, Nat.reduceBEq, reduceIte]) (by simp only [go_sem, Nat.reduceEqDiff, Nat.reduceAdd, Nat.reduceSub, Nat.reduceMul, Nat.reduceLeDiff, Nat.reduceLT, Nat.reduceBEq, reduceIte]) (by simp only [go_sem, Nat.reduceEqDiff, Nat.reduceAdd, Nat.reduceSub, Nat.reduceMul, Nat.reduceLeDiff, Nat.reduceLT, Nat.reduceBEq, reduceIte]) (by simp) ?_
                  try simp only [go_sem, Nat.reduceEqDiff, Nat.reduceAdd, Nat.reduceSub, Nat.reduceMul, Nat.reduceLeDiff, Nat.reduceLT, Nat.reduceBEq, reduceIte]
                  refine AW.cut [0, 1, 5] [(2, .ptr 0 6 0 0), (3, .ptr 1 3 0 0), (6, accV 2 1 ((l49.map i64V).map (·.map .d))), (88, .d (.val (.int .i64 (p0.kids.length : Int)))), (89, .d (.val (.int .i64 i44_0)))] [some ⟨6, [[.d (.val (.int .i64 p0.op)), .d (.val (.string p0.name)), .d (.val (.bool p0.num.neg)), .d (slD u32V p0.num.num), .d (slD u32V p0.num.den), .d (slD NodeA.enc p0.kids)]]⟩, some ⟨3, [[.d (.val (.bool p1.inDiff)), .d (.val (.bool p1.inFDiff)), .d (.val (.bool p1.inFlow))]]⟩, accO 1 ((l49.map i64V).map (·.map .d))] (by simp only [go_sem, Nat.reduceEqDiff, Nat.reduceAdd, Nat.reduceSub, Nat.reduceMul, Nat.reduceLeDiff, Nat.reduceLT, Nat.reduceBEq, reduceIte]) ?_
                  refine AW.reg mixed (by kernel_rfl) ?_
                  try simp only [go_sem, Nat.reduceEqDiff, Nat.reduceAdd, Nat.reduceSub, Nat.reduceMul, Nat.reduceLeDiff, Nat.reduceLT, Nat.reduceBEq, reduceIte]
                  refine NextQ.mk (IntKind.wrap .i64 (i44_0 + (1 : Int)), l49) [0, 1, 2] h (by simp only [go_sem, Nat.reduceEqDiff, Nat.reduceAdd, Nat.reduceSub, Nat.reduceMul, Nat.reduceLeDiff, Nat.reduceLT, Nat.reduceBEq, reduceIte])
                · have h := ifF hb48 h
                  refine AW.exit ?_
                  try simp only [go_sem, Nat.reduceEqDiff, Nat.reduceAdd, Nat.reduceSub, Nat.reduceMul, Nat.reduceLeDiff, Nat.reduceLT, Nat.reduceBEq, reduceIte]
                  refine JoinQ.mk i44_1 [0, 1, 2] (Option.some.inj h) (by simp only [go_sem, Nat.reduceEqDiff, Nat.reduceAdd, Nat.reduceSub, Nat.reduceMul, Nat.reduceLeDiff, Nat.reduceLT, Nat.reduceBEq, reduceIte])
              · rintro e45_0 rfl
                have h := hJ47
                try dsimp only [Out.fin] at h
                simp only [go_sem, Nat.reduceEqDiff, Nat.reduceAdd, Nat.reduceSub, Nat.reduceMul, Nat.reduceLeDiff, Nat.reduceLT, Nat.reduceBEq, reduceIte]
                refine JoinQ.mkS (e45_0, p1) [0, 1] [2] [(6, .d (slD i64V e45_0))] (Option.some.inj h).symm (by simp only [go_sem, Nat.reduceEqDiff, Nat.reduceAdd, Nat.reduceSub, Nat.reduceMul, Nat.reduceLeDiff, Nat.reduceLT, Nat.reduceBEq, reduceIte, sealL_cons, sealL_nil]; exact sealAcc (by simp only [go_sem, Nat.reduceEqDiff, Nat.reduceAdd, Nat.reduceSub, Nat.reduceMul, Nat.reduceLeDiff, Nat.reduceLT, Nat.reduceBEq, reduceIte])) (by simp only [go_sem, Nat.reduceEqDiff, Nat.reduceAdd, Nat.reduceSub, Nat.reduceMul, Nat.reduceLeDiff, Nat.reduceLT, Nat.reduceBEq, reduceIte])
          · have h := ifF hb30 h
            refine AW.one ?_
            refine AW.reg mixed (by kernel_rfl) ?_
            try simp only [go_sem, Nat.reduceEqDiff, Nat.reduceAdd, Nat.reduceSub, Nat.reduceMul, Nat.reduceLeDiff, Nat.reduceLT, Nat.reduceBEq, reduceIte]
            refine AW.cut [0, 1] [(2, .ptr 0 6 0 0), (3, .ptr 1 3 0 0), (6, nilV i64V r12.2), (72, .d (.val (.int .i64 p0.op))), (95, .d (.val (.bool (p0.op == (54 : Int)))))] [some ⟨6, [[.d (.val (.int .i64 p0.op)), .d (.val (.string p0.name)), .d (.val (.bool p0.num.neg)), .d (slD u32V p0.num.num), .d (slD u32V p0.num.den), .d (slD NodeA.enc p0.kids)]]⟩, some ⟨3, [[.d (.val (.bool p1.inDiff)), .d (.val (.bool p1.inFDiff)), .d (.val (.bool p1.inFlow))]]⟩] (by simp only [go_sem, Nat.reduceEqDiff, Nat.reduceAdd, Nat.reduceSub, Nat.reduceMul, Nat.reduceLeDiff, Nat.reduceLT, Nat.reduceBEq, reduceIte]) ?_
            refine AW.test (t := (p0.op == (54 : Int))) (by simp only [go_sem, Nat.reduceEqDiff, Nat.reduceAdd, Nat.reduceSub, Nat.reduceMul, Nat.reduceLeDiff, Nat.reduceLT, Nat.reduceBEq, reduceIte]) (fun hb51 => ?_) (fun hb51 => ?_)
            · have h := ifT hb51 h
              refine AW.one ?_
              obtain ⟨oJ53, h, hJ53⟩ := obind h
              refine AW.join (S := Unit) (fun _ => [(2, .ptr 0 6 0 0), (3, .ptr 1 3 0 0), (6, nilV i64V r12.2)]) (fun _ => [some ⟨6, [[.d (.val (.int .i64 p0.op)), .d (.val (.string p0.name)), .d (.val (.bool p0.num.neg)), .d (slD u32V p0.num.num), .d (slD u32V p0.num.den), .d (slD NodeA.enc p0.kids)]]⟩, some ⟨3, [[.d (.val (.bool p1.inDiff)), .d (.val (.bool p1.inFDiff)), .d (.val (.bool p1.inFlow))]]⟩]) (fun x => oJ53 = .go x) ?_ ?_
              · skip
                refine AW.one ?_
                obtain ⟨oJ55, h, hJ55⟩ := obind h
                refine AW.join (S := Bool) (fun v54_0 => [(2, .ptr 0 6 0 0), (3, .ptr 1 3 0 0), (6, nilV i64V r12.2), (105, .d (.val (.bool v54_0)))]) (fun v54_0 => [some ⟨6, [[.d (.val (.int .i64 p0.op)), .d (.val (.string p0.name)), .d (.val (.bool p0.num.neg)), .d (slD u32V p0.num.num), .d (slD u32V p0.num.den), .d (slD NodeA.enc p0.kids)]]⟩, some ⟨3, [[.d (.val (.bool p1.inDiff)), .d (.val (.bool p1.inFDiff)), .d (.val (.bool p1.inFlow))]]⟩]) (fun x => x = oJ55) ?_ ?_
                · skip
                  refine AW.reg mixed (by kernel_rfl) ?_
                  try simp only [go_sem, Nat.reduceEqDiff, Nat.reduceAdd, Nat.reduceSub, Nat.reduceMul, Nat.reduceLeDiff, Nat.reduceLT, Nat.reduceBEq, reduceIte]
                  refine splitK_intro (fun hb56 => ?_) (fun hb56 => ?_)
                  · have h := ifT hb56 h
                    try simp only [go_sem, Nat.reduceEqDiff, Nat.reduceAdd, Nat.reduceSub, Nat.reduceMul, Nat.reduceLeDiff, Nat.reduceLT, Nat.reduceBEq, reduceIte, hb56]
                    refine JoinQ.mk true [0, 1] (Option.some.inj h) (by simp only [go_sem, Nat.reduceEqDiff, Nat.reduceAdd, Nat.reduceSub, Nat.reduceMul, Nat.reduceLeDiff, Nat.reduceLT, Nat.reduceBEq, reduceIte, hb56])
                  · have h := ifF hb56 h
                    try simp only [go_sem, Nat.reduceEqDiff, Nat.reduceAdd, Nat.reduceSub, Nat.reduceMul, Nat.reduceLeDiff, Nat.reduceLT, Nat.reduceBEq, reduceIte, hb56]
                    refine JoinQ.mk (decide ((p0.kids.length : Int) < (2 : Int))) [0, 1] (Option.some.inj h) (by simp only [go_sem, Nat.reduceEqDiff, Nat.reduceAdd, Nat.reduceSub, Nat.reduceMul, Nat.reduceLeDiff, Nat.reduceLT, Nat.reduceBEq, reduceIte, hb56])
                · rintro v54_0 rfl
                  have h := hJ55
                  try dsimp only [Out.fin] at h
                  simp only [go_sem, Nat.reduceEqDiff, Nat.reduceAdd, Nat.reduceSub, Nat.reduceMul, Nat.reduceLeDiff, Nat.reduceLT, Nat.reduceBEq, reduceIte]
                  refine AW.test (t := v54_0) (by simp only [go_sem, Nat.reduceEqDiff, Nat.reduceAdd, Nat.reduceSub, Nat.reduceMul, Nat.reduceLeDiff, Nat.reduceLT, Nat.reduceBEq, reduceIte]) (fun hb57 => ?_) (fun hb57 => ?_)
                  · have h := ifT hb57 h
                    refine AW.one ?_
                    refine AW.reg mixed (by kernel_rfl) ?_
                    try simp only [go_sem, Nat.reduceEqDiff, Nat.reduceAdd, Nat.reduceSub, Nat.reduceMul, Nat.reduceLeDiff, Nat.reduceLT, Nat.reduceBEq, reduceIte]
                    refine AW.ret ?_
                    obtain ⟨_, h, ho⟩ := outM_some h
                    rw [ho, Out.fin_out] at hJ53
                    have h := h.trans hJ53
                    obtain ⟨_, h, ho⟩ := outM_some h
                    rw [ho, Out.fin_out] at hJ26
                    have h := h.trans hJ26
                    obtain rfl := Option.some.inj h
                    simp only [go_sem, Nat.reduceEqDiff, Nat.reduceAdd, Nat.reduceSub, Nat.reduceMul, Nat.reduceLeDiff, Nat.reduceLT, Nat.reduceBEq, reduceIte]
                    exact .same _
                  · have h := ifF hb57 h
                    refine AW.skip ?_
                    try simp only [go_sem, Nat.reduceEqDiff, Nat.reduceAdd, Nat.reduceSub, Nat.reduceMul, Nat.reduceLeDiff, Nat.reduceLT, Nat.reduceBEq, reduceIte]
                    refine JoinQ.mk () [0, 1] (Option.some.inj h).symm (by simp only [go_sem, Nat.reduceEqDiff, Nat.reduceAdd, Nat.reduceSub, Nat.reduceMul, Nat.reduceLeDiff, Nat.reduceLT, Nat.reduceBEq, reduceIte])
              · rintro ⟨⟩ rfl
                have h := hJ53
                try dsimp only [Out.fin] at h
                simp only [go_sem, Nat.reduceEqDiff, Nat.reduceAdd, Nat.reduceSub, Nat.reduceMul, Nat.reduceLeDiff, Nat.reduceLT, Nat.reduceBEq, reduceIte]
                refine AW.one ?_
                refine AW.reg mixed (by kernel_rfl) ?_
                try simp only [go_sem, Nat.reduceEqDiff, Nat.reduceAdd, Nat.reduceSub, Nat.reduceMul, Nat.reduceLeDiff, Nat.reduceLT, Nat.reduceBEq, reduceIte]
                refine AW.cut [0, 1] [(2, .ptr 0 6 0 0), (3, .ptr 1 3 0 0), (6, nilV i64V r12.2), (7, .d (.val (.int .i64 (IntKind.wrap .i64 ((p0.kids.length : Int) - (1 : Int))))))] [some ⟨6, [[.d (.val (.int .i64 p0.op)), .d (.val (.string p0.name)), .d (.val (.bool p0.num.neg)), .d (slD u32V p0.num.num), .d (slD u32V p0.num.den), .d (slD NodeA.enc p0.kids)]]⟩, some ⟨3, [[.d (.val (.bool p1.inDiff)), .d (.val (.bool p1.inFDiff)), .d (.val (.bool p1.inFlow))]]⟩] (by simp only [go_sem, Nat.reduceEqDiff, Nat.reduceAdd, Nat.reduceSub, Nat.reduceMul, Nat.reduceLeDiff, Nat.reduceLT, Nat.reduceBEq, reduceIte]) ?_
                refine AW.one ?_
                refine AW.one ?_
                refine AW.reg mixed (by kernel_rfl) ?_
                try simp only [go_sem, Nat.reduceEqDiff, Nat.reduceAdd, Nat.reduceSub, Nat.reduceMul, Nat.reduceLeDiff, Nat.reduceLT, Nat.reduceBEq, reduceIte]
                refine AW.cut [0, 1] [(2, .ptr 0 6 0 0), (3, .ptr 1 3 0 0), (6, nilV i64V r12.2), (7, .d (.val (.int .i64 (IntKind.wrap .i64 ((p0.kids.length : Int) - (1 : Int)))))), (8, .d (.val (.int .i64 (0 : Int))))] [some ⟨6, [[.d (.val (.int .i64 p0.op)), .d (.val (.string p0.name)), .d (.val (.bool p0.num.neg)), .d (slD u32V p0.num.num), .d (slD u32V p0.num.den), .d (slD NodeA.enc p0.kids)]]⟩, some ⟨3, [[.d (.val (.bool p1.inDiff)), .d (.val (.bool p1.inFDiff)), .d (.val (.bool p1.inFlow))]]⟩] (by simp only [go_sem, Nat.reduceEqDiff, Nat.reduceAdd, Nat.reduceSub, Nat.reduceMul, Nat.reduceLeDiff, Nat.reduceLT, Nat.reduceBEq, reduceIte]) ?_
                obtain ⟨_, hx62, h⟩ := obind h
                refine AW.cut [0, 1] [(2, .ptr 0 6 0 0), (3, .ptr 1 3 0 0), (6, .d (.val (.slice none 0 0))), (7, .d (.val (.int .i64 (IntKind.wrap .i64 ((p0.kids.length : Int) - (1 : Int)))))), (8, .d (.val (.int .i64 (0 : Int))))] [some ⟨6, [[.d (.val (.int .i64 p0.op)), .d (.val (.string p0.name)), .d (.val (.bool p0.num.neg)), .d (slD u32V p0.num.num), .d (slD u32V p0.num.den), .d (slD NodeA.enc p0.kids)]]⟩, some ⟨3, [[.d (.val (.bool p1.inDiff)), .d (.val (.bool p1.inFDiff)), .d (.val (.bool p1.inFlow))]]⟩] (by simp only [go_sem, Nat.reduceEqDiff, Nat.reduceAdd, Nat.reduceSub, Nat.reduceMul, Nat.reduceLeDiff, Nat.reduceLT, Nat.reduceBEq, reduceIte, must_none hx62]) ?_
                obtain ⟨oJ66, h, hJ66⟩ := obind h
                refine AW.join (S := (List Int)) (fun e64_0 => [(2, .ptr 0 6 0 0), (3, .ptr 1 3 0 0), (6, accV 2 1 ((e64_0.map i64V).map (·.map .d)))]) (fun e64_0 => [some ⟨6, [[.d (.val (.int .i64 p0.op)), .d (.val (.string p0.name)), .d (.val (.bool p0.num.neg)), .d (slD u32V p0.num.num), .d (slD u32V p0.num.den), .d (slD NodeA.enc p0.kids)]]⟩, some ⟨3, [[.d (.val (.bool p1.inDiff)), .d (.val (.bool p1.inFDiff)), .d (.val (.bool p1.inFlow))]]⟩, accO 1 ((e64_0.map i64V).map (·.map .d))]) (fun x => oJ66 = .go x) ?_ ?_
                · refine AW.block ?_
                  refine AW.iter (S := Int × (List Int)) (fun (i63_0, i63_1) => [(2, .ptr 0 6 0 0), (3, .ptr 1 3 0 0), (6, accV 2 1 ((i63_1.map i64V).map (·.map .d))), (7, .d (.val (.int .i64 (IntKind.wrap .i64 ((p0.kids.length : Int) - (1 : Int)))))), (8, .d (.val (.int .i64 i63_0)))]) (fun (i63_0, i63_1) => [some ⟨6, [[.d (.val (.int .i64 p0.op)), .d (.val (.string p0.name)), .d (.val (.bool p0.num.neg)), .d (slD u32V p0.num.num), .d (slD u32V p0.num.den), .d (slD NodeA.enc p0.kids)]]⟩, some ⟨3, [[.d (.val (.bool p1.inDiff)), .d (.val (.bool p1.inFDiff)), .d (.val (.bool p1.inFlow))]]⟩, accO 1 ((i63_1.map i64V).map (·.map .d))]) [0, 1, 1002] h (by simp only [go_sem, Nat.reduceEqDiff, Nat.reduceAdd, Nat.reduceSub, Nat.reduceMul, Nat.reduceLeDiff, Nat.reduceLT, Nat.reduceBEq, reduceIte]) ?_
                  rintro again ⟨i63_0, i63_1⟩ h
                  try dsimp only at h
                  refine AW.one ?_
                  refine AW.one ?_
                  refine AW.reg mixed (by kernel_rfl) ?_
                  try simp only [go_sem, Nat.reduceEqDiff, Nat.reduceAdd, Nat.reduceSub, Nat.reduceMul, Nat.reduceLeDiff, Nat.reduceLT, Nat.reduceBEq, reduceIte]
                  refine AW.cut [0, 1, 2] [(2, .ptr 0 6 0 0), (3, .ptr 1 3 0 0), (6, accV 2 1 ((i63_1.map i64V).map (·.map .d))), (7, .d (.val (.int .i64 (IntKind.wrap .i64 ((p0.kids.length : Int) - (1 : Int)))))), (8, .d (.val (.int .i64 i63_0))), (112, .d (.val (.bool (decide (i63_0 < (IntKind.wrap .i64 ((p0.kids.length : Int) - (1 : Int))))))))] [some ⟨6, [[.d (.val (.int .i64 p0.op)), .d (.val (.string p0.name)), .d (.val (.bool p0.num.neg)), .d (slD u32V p0.num.num), .d (slD u32V p0.num.den), .d (slD NodeA.enc p0.kids)]]⟩, some ⟨3, [[.d (.val (.bool p1.inDiff)), .d (.val (.bool p1.inFDiff)), .d (.val (.bool p1.inFlow))]]⟩, accO 1 ((i63_1.map i64V).map (·.map .d))] (by simp only [go_sem, Nat.reduceEqDiff, Nat.reduceAdd, Nat.reduceSub, Nat.reduceMul, Nat.reduceLeDiff, Nat.reduceLT, Nat.reduceBEq, reduceIte]) ?_
                  refine AW.test (t := (decide (i63_0 < (IntKind.wrap .i64 ((p0.kids.length : Int) - (1 : Int)))))) (by simp only [go_sem, Nat.reduceEqDiff, Nat.reduceAdd, Nat.reduceSub, Nat.reduceMul, Nat.reduceLeDiff, Nat.reduceLT, Nat.reduceBEq, reduceIte]) (fun hb67 => ?_) (fun hb67 => ?_)
                  · have h := ifT hb67 h
                    refine AW.skip ?_
                    try simp only [go_sem, Nat.reduceEqDiff, Nat.reduceAdd, Nat.reduceSub, Nat.reduceMul, Nat.reduceLeDiff, Nat.reduceLT, Nat.reduceBEq, reduceIte]
                    refine AW.cut [0, 1, 2] [(2, .ptr 0 6 0 0), (3, .ptr 1 3 0 0), (6, accV 2 1 ((i63_1.map i64V).map (·.map .d))), (7, .d (.val (.int .i64 (IntKind.wrap .i64 ((p0.kids.length : Int) - (1 : Int)))))), (8, .d (.val (.int .i64 i63_0)))] [some ⟨6, [[.d (.val (.int .i64 p0.op)), .d (.val (.string p0.name)), .d (.val (.bool p0.num.neg)), .d (slD u32V p0.num.num), .d (slD u32V p0.num.den), .d (slD NodeA.enc p0.kids)]]⟩, some ⟨3, [[.d (.val (.bool p1.inDiff)), .d (.val (.bool p1.inFDiff)), .d (.val (.bool p1.inFlow))]]⟩, accO 1 ((i63_1.map i64V).map (·.map .d))] (by simp only [go_sem, Nat.reduceEqDiff, Nat.reduceAdd, Nat.reduceSub, Nat.reduceMul, Nat.reduceLeDiff, Nat.reduceLT, Nat.reduceBEq, reduceIte]) ?_
                    refine AW.one ?_
                    obtain ⟨oJ69, h, hJ69⟩ := obind h
                    refine AW.join (S := (List Int)) (fun v68_0 => [(2, .ptr 0 6 0 0), (3, .ptr 1 3 0 0), (6, accV 2 1 ((v68_0.map i64V).map (·.map .d))), (7, .d (.val (.int .i64 (IntKind.wrap .i64 ((p0.kids.length : Int) - (1 : Int)))))), (8, .d (.val (.int .i64 i63_0)))]) (fun v68_0 => [some ⟨6, [[.d (.val (.int .i64 p0.op)), .d (.val (.string p0.name)), .d (.val (.bool p0.num.neg)), .d (slD u32V p0.num.num), .d (slD u32V p0.num.den), .d (slD NodeA.enc p0.kids)]]⟩, some ⟨3, [[.d (.val (.bool p1.inDiff)), .d (.val (.bool p1.inFDiff)), .d (.val (.bool p1.inFlow))]]⟩, accO 1 ((v68_0.map i64V).map (·.map .d))]) (fun x => oJ69 = .go x) ?_ ?_
                    · skip
                      refine AW.block ?_
                      refine AW.one ?_
                      refine AW.reg mixed (by kernel_rfl) ?_
                      obtain ⟨x70, hx71, h⟩ := obind h
                      try simp only [go_sem, Nat.reduceEqDiff, Nat.reduceAdd, Nat.reduceSub, Nat.reduceMul, Nat.reduceLeDiff, Nat.reduceLT, Nat.reduceBEq, reduceIte, (idx_some hx71).1, (idx_some hx71).2]
                      refine AW.cut [0, 1, 2, 8] [(2, .ptr 0 6 0 0), (3, .ptr 1 3 0 0), (6, accV 2 1 ((i63_1.map i64V).map (·.map .d))), (7, .d (.val (.int .i64 (IntKind.wrap .i64 ((p0.kids.length : Int) - (1 : Int)))))), (8, .d (.val (.int .i64 i63_0))), (9, .ptr 3 6 0 0)] [some ⟨6, [[.d (.val (.int .i64 p0.op)), .d (.val (.string p0.name)), .d (.val (.bool p0.num.neg)), .d (slD u32V p0.num.num), .d (slD u32V p0.num.den), .d (slD NodeA.enc p0.kids)]]⟩, some ⟨3, [[.d (.val (.bool p1.inDiff)), .d (.val (.bool p1.inFDiff)), .d (.val (.bool p1.inFlow))]]⟩, accO 1 ((i63_1.map i64V).map (·.map .d)), some ⟨6, [[.d (.val (.int .i64 x70.op)), .d (.val (.string x70.name)), .d (.val (.bool x70.num.neg)), .d (slD u32V x70.num.num), .d (slD u32V x70.num.den), .d (slD NodeA.enc x70.kids)]]⟩] (by simp only [go_sem, Nat.reduceEqDiff, Nat.reduceAdd, Nat.reduceSub, Nat.reduceMul, Nat.reduceLeDiff, Nat.reduceLT, Nat.reduceBEq, reduceIte, (idx_some hx71).1, (idx_some hx71).2]) ?_
                      refine AW.one ?_
                      obtain ⟨oJ73, h, hJ73⟩ := obind h
                      refine AW.join (S := Unit) (fun _ => [(2, .ptr 0 6 0 0), (3, .ptr 1 3 0 0), (6, accV 2 1 ((i63_1.map i64V).map (·.map .d))), (7, .d (.val (.int .i64 (IntKind.wrap .i64 ((p0.kids.length : Int) - (1 : Int)))))), (8, .d (.val (.int .i64 i63_0))), (9, .ptr 3 6 0 0)]) (fun _ => [some ⟨6, [[.d (.val (.int .i64 p0.op)), .d (.val (.string p0.name)), .d (.val (.bool p0.num.neg)), .d (slD u32V p0.num.num), .d (slD u32V p0.num.den), .d (slD NodeA.enc p0.kids)]]⟩, some ⟨3, [[.d (.val (.bool p1.inDiff)), .d (.val (.bool p1.inFDiff)), .d (.val (.bool p1.inFlow))]]⟩, accO 1 ((i63_1.map i64V).map (·.map .d)), some ⟨6, [[.d (.val (.int .i64 x70.op)), .d (.val (.string x70.name)), .d (.val (.bool x70.num.neg)), .d (slD u32V x70.num.num), .d (slD u32V x70.num.den), .d (slD NodeA.enc x70.kids)]]⟩]) (fun x => oJ73 = .go x) ?_ ?_
                      · skip
                        refine AW.one ?_
                        obtain ⟨oJ75, h, hJ75⟩ := obind h
                        refine AW.join (S := Bool) (fun v74_0 => [(2, .ptr 0 6 0 0), (3, .ptr 1 3 0 0), (6, accV 2 1 ((i63_1.map i64V).map (·.map .d))), (7, .d (.val (.int .i64 (IntKind.wrap .i64 ((p0.kids.length : Int) - (1 : Int)))))), (8, .d (.val (.int .i64 i63_0))), (9, .ptr 3 6 0 0), (133, .d (.val (.bool v74_0)))]) (fun v74_0 => [some ⟨6, [[.d (.val (.int .i64 p0.op)), .d (.val (.string p0.name)), .d (.val (.bool p0.num.neg)), .d (slD u32V p0.num.num), .d (slD u32V p0.num.den), .d (slD NodeA.enc p0.kids)]]⟩, some ⟨3, [[.d (.val (.bool p1.inDiff)), .d (.val (.bool p1.inFDiff)), .d (.val (.bool p1.inFlow))]]⟩, accO 1 ((i63_1.map i64V).map (·.map .d)), some ⟨6, [[.d (.val (.int .i64 x70.op)), .d (.val (.string x70.name)), .d (.val (.bool x70.num.neg)), .d (slD u32V x70.num.num), .d (slD u32V x70.num.den), .d (slD NodeA.enc x70.kids)]]⟩]) (fun x => x = oJ75) ?_ ?_
                        · skip
                          refine AW.reg mixed (by kernel_rfl) ?_
                          try simp only [go_sem, Nat.reduceEqDiff, Nat.reduceAdd, Nat.reduceSub, Nat.reduceMul, Nat.reduceLeDiff, Nat.reduceLT, Nat.reduceBEq, reduceIte]
                          refine splitK_intro (fun hb76 => ?_) (fun hb76 => ?_)
                          · have h := ifT hb76 h
                            try simp only [go_sem, Nat.reduceEqDiff, Nat.reduceAdd, Nat.reduceSub, Nat.reduceMul, Nat.reduceLeDiff, Nat.reduceLT, Nat.reduceBEq, reduceIte, hb76]
                            refine splitK_intro (fun hb77 => ?_) (fun hb77 => ?_)
                            · have h := ifT hb77 h
                              try simp only [go_sem, Nat.reduceEqDiff, Nat.reduceAdd, Nat.reduceSub, Nat.reduceMul, Nat.reduceLeDiff, Nat.reduceLT, Nat.reduceBEq, reduceIte, hb76, hb77]
                              refine JoinQ.mk true [0, 1, 2, 3] (Option.some.inj h) (by simp only [go_sem, Nat.reduceEqDiff, Nat.reduceAdd, Nat.reduceSub, Nat.reduceMul, Nat.reduceLeDiff, Nat.reduceLT, Nat.reduceBEq, reduceIte, hb76, hb77])
                            · have h := ifF hb77 h
                              try simp only [go_sem, Nat.reduceEqDiff, Nat.reduceAdd, Nat.reduceSub, Nat.reduceMul, Nat.reduceLeDiff, Nat.reduceLT, Nat.reduceBEq, reduceIte, hb76, hb77]
                              refine JoinQ.mk (i63_0 != (IntKind.wrap .i64 ((IntKind.wrap .i64 ((p0.kids.length : Int) - (1 : Int))) - (1 : Int)))) [0, 1, 2, 3] (Option.some.inj h) (by simp only [go_sem, Nat.reduceEqDiff, Nat.reduceAdd, Nat.reduceSub, Nat.reduceMul, Nat.reduceLeDiff, Nat.reduceLT, Nat.reduceBEq, reduceIte, hb76, hb77])
                          · have h := ifF hb76 h
                            try simp only [go_sem, Nat.reduceEqDiff, Nat.reduceAdd, Nat.reduceSub, Nat.reduceMul, Nat.reduceLeDiff, Nat.reduceLT, Nat.reduceBEq, reduceIte, hb76]
                            refine JoinQ.mk false [0, 1, 2, 3] (Option.some.inj h) (by simp only [go_sem, Nat.reduceEqDiff, Nat.reduceAdd, Nat.reduceSub, Nat.reduceMul, Nat.reduceLeDiff, Nat.reduceLT, Nat.reduceBEq, reduceIte, hb76])
                        · rintro v74_0 rfl
                          have h := hJ75
                          try dsimp only [Out.fin] at h
                          simp only [go_sem, Nat.reduceEqDiff, Nat.reduceAdd, Nat.reduceSub, Nat.reduceMul, Nat.reduceLeDiff, Nat.reduceLT, Nat.reduceBEq, reduceIte]
                          refine AW.test (t := v74_0) (by simp only [go_sem, Nat.reduceEqDiff, Nat.reduceAdd, Nat.reduceSub, Nat.reduceMul, Nat.reduceLeDiff, Nat.reduceLT, Nat.reduceBEq, reduceIte]) (fun hb78 => ?_) (fun hb78 => ?_)
                          · have h := ifT hb78 h
                            refine AW.one ?_
                            refine AW.reg mixed (by kernel_rfl) ?_
                            try simp only [go_sem, Nat.reduceEqDiff, Nat.reduceAdd, Nat.reduceSub, Nat.reduceMul, Nat.reduceLeDiff, Nat.reduceLT, Nat.reduceBEq, reduceIte]
                            refine AW.ret ?_
                            obtain ⟨_, h, ho⟩ := outM_some h
                            rw [ho, Out.fin_out] at hJ73
                            have h := h.trans hJ73
                            obtain ⟨_, h, ho⟩ := outM_some h
                            rw [ho, Out.fin_out] at hJ69
                            have h := h.trans hJ69
                            obtain ⟨_, h, ho⟩ := outM_some h
                            rw [ho, Out.fin_out] at hJ66
                            have h := h.trans hJ66
                            obtain ⟨_, h, ho⟩ := outM_some h
                            rw [ho, Out.fin_out] at hJ26
                            have h := h.trans hJ26
                            obtain rfl := Option.some.inj h
                            simp only [go_sem, Nat.reduceEqDiff, Nat.reduceAdd, Nat.reduceSub, Nat.reduceMul, Nat.reduceLeDiff, Nat.reduceLT, Nat.reduceBEq, reduceIte]
                            exact .same _
                          · have h := ifF hb78 h
                            refine AW.skip ?_
                            try simp only [go_sem, Nat.reduceEqDiff, Nat.reduceAdd, Nat.reduceSub, Nat.reduceMul, Nat.reduceLeDiff, Nat.reduceLT, Nat.reduceBEq, reduceIte]
                            refine JoinQ.mk () [0, 1, 2, 3] (Option.some.inj h).symm (by simp only [go_sem, Nat.reduceEqDiff, Nat.reduceAdd, Nat.reduceSub, Nat.reduceMul, Nat.reduceLeDiff, Nat.reduceLT, Nat.reduceBEq, reduceIte])
                      · rintro ⟨⟩ rfl
                        have h := hJ73
                        try dsimp only [Out.fin] at h
                        simp only [go_sem, Nat.reduceEqDiff, Nat.reduceAdd, Nat.reduceSub, Nat.reduceMul, Nat.reduceLeDiff, Nat.reduceLT, Nat.reduceBEq, reduceIte]
                        refine AW.one ?_
                        refine AW.one ?_
                        refine AW.reg mixed (by kernel_rfl) ?_
                        obtain ⟨s79, hx80, h⟩ := obind h
                        try simp only [go_sem, Nat.reduceEqDiff, Nat.reduceAdd, Nat.reduceSub, Nat.reduceMul, Nat.reduceLeDiff, Nat.reduceLT, Nat.reduceBEq, reduceIte, hx80]
                        refine AW.cut [0, 1, 2, 3] [(2, .ptr 0 6 0 0), (3, .ptr 1 3 0 0), (6, accV 2 1 ((i63_1.map i64V).map (·.map .d))), (7, .d (.val (.int .i64 (IntKind.wrap .i64 ((p0.kids.length : Int) - (1 : Int)))))), (8, .d (.val (.int .i64 i63_0))), (9, .ptr 3 6 0 0), (137, .d (slD NodeA.enc s79)), (138, .d (.val (.int .i64 (s79.length : Int)))), (139, .d (.val (.int .i64 (0 : Int))))] [some ⟨6, [[.d (.val (.int .i64 p0.op)), .d (.val (.string p0.name)), .d (.val (.bool p0.num.neg)), .d (slD u32V p0.num.num), .d (slD u32V p0.num.den), .d (slD NodeA.enc p0.kids)]]⟩, some ⟨3, [[.d (.val (.bool p1.inDiff)), .d (.val (.bool p1.inFDiff)), .d (.val (.bool p1.inFlow))]]⟩, accO 1 ((i63_1.map i64V).map (·.map .d)), some ⟨6, [[.d (.val (.int .i64 x70.op)), .d (.val (.string x70.name)), .d (.val (.bool x70.num.neg)), .d (slD u32V x70.num.num), .d (slD u32V x70.num.den), .d (slD NodeA.enc x70.kids)]]⟩] (by simp only [go_sem, Nat.reduceEqDiff, Nat.reduceAdd, Nat.reduceSub, Nat.reduceMul, Nat.reduceLeDiff, Nat.reduceLT, Nat.reduceBEq, reduceIte, hx80]) ?_
                        obtain ⟨oJ84, h, hJ84⟩ := obind h
                        refine AW.join (S := Unit) (fun _ => [(2, .ptr 0 6 0 0), (3, .ptr 1 3 0 0), (6, accV 2 1 ((i63_1.map i64V).map (·.map .d))), (7, .d (.val (.int .i64 (IntKind.wrap .i64 ((p0.kids.length : Int) - (1 : Int)))))), (8, .d (.val (.int .i64 i63_0)))]) (fun _ => [some ⟨6, [[.d (.val (.int .i64 p0.op)), .d (.val (.string p0.name)), .d (.val (.bool p0.num.neg)), .d (slD u32V p0.num.num), .d (slD u32V p0.num.den), .d (slD NodeA.enc p0.kids)]]⟩, some ⟨3, [[.d (.val (.bool p1.inDiff)), .d (.val (.bool p1.inFDiff)), .d (.val (.bool p1.inFlow))]]⟩, accO 1 ((i63_1.map i64V).map (·.map .d))]) (fun x => oJ84 = .go x) ?_ ?_
                        · refine AW.block ?_
                          refine AW.iter (S := Int) (fun i81_0 => [(2, .ptr 0 6 0 0), (3, .ptr 1 3 0 0), (6, accV 2 1 ((i63_1.map i64V).map (·.map .d))), (7, .d (.val (.int .i64 (IntKind.wrap .i64 ((p0.kids.length : Int) - (1 : Int)))))), (8, .d (.val (.int .i64 i63_0))), (9, .ptr 3 6 0 0), (137, .d (slD NodeA.enc s79)), (138, .d (.val (.int .i64 (s79.length : Int)))), (139, .d (.val (.int .i64 i81_0)))]) (fun i81_0 => [some ⟨6, [[.d (.val (.int .i64 p0.op)), .d (.val (.string p0.name)), .d (.val (.bool p0.num.neg)), .d (slD u32V p0.num.num), .d (slD u32V p0.num.den), .d (slD NodeA.enc p0.kids)]]⟩, some ⟨3, [[.d (.val (.bool p1.inDiff)), .d (.val (.bool p1.inFDiff)), .d (.val (.bool p1.inFlow))]]⟩, accO 1 ((i63_1.map i64V).map (·.map .d)), some ⟨6, [[.d (.val (.int .i64 x70.op)), .d (.val (.string x70.name)), .d (.val (.bool x70.num.neg)), .d (slD u32V x70.num.num), .d (slD u32V x70.num.den), .d (slD NodeA.enc x70.kids)]]⟩]) [0, 1, 2, 3] h (by simp only [go_sem, Nat.reduceEqDiff, Nat.reduceAdd, Nat.reduceSub, Nat.reduceMul, Nat.reduceLeDiff, Nat.reduceLT, Nat.reduceBEq, reduceIte]) ?_
                          rintro again i81_0 h
                          try dsimp only at h
                          refine AW.one ?_
                          refine AW.reg mixed (by kernel_rfl) ?_
                          try simp only [go_sem, Nat.reduceEqDiff, Nat.reduceAdd, Nat.reduceSub, Nat.reduceMul, Nat.reduceLeDiff, Nat.reduceLT, Nat.reduceBEq, reduceIte]
                          refine AW.cut [0, 1, 2, 3] [(2, .ptr 0 6 0 0), (3, .ptr 1 3 0 0), (6, accV 2 1 ((i63_1.map i64V).map (·.map .d))), (7, .d (.val (.int .i64 (IntKind.wrap .i64 ((p0.kids.length : Int) - (1 : Int)))))), (8, .d (.val (.int .i64 i63_0))), (9, .ptr 3 6 0 0), (137, .d (slD NodeA.enc s79)), (138, .d (.val (.int .i64 (s79.length : Int)))), (139, .d (.val (.int .i64 i81_0))), (140, .d (.val (.bool (decide (i81_0 < (s79.length : Int))))))] [some ⟨6, [[.d (.val (.int .i64 p0.op)), .d (.val (.string p0.name)), .d (.val (.bool p0.num.neg)), .d (slD u32V p0.num.num), .d (slD u32V p0.num.den), .d (slD NodeA.enc p0.kids)]]⟩, some ⟨3, [[.d (.val (.bool p1.inDiff)), .d (.val (.bool p1.inFDiff)), .d (.val (.bool p1.inFlow))]]⟩, accO 1 ((i63_1.map i64V).map (·.map .d)), some ⟨6, [[.d (.val (.int .i64 x70.op)), .d (.val (.string x70.name)), .d (.val (.bool x70.num.neg)), .d (slD u32V x70.num.num), .d (slD u32V x70.num.den), .d (slD NodeA.enc x70.kids)]]⟩] (by simp only [go_sem, Nat.reduceEqDiff, Nat.reduceAdd, Nat.reduceSub, Nat.reduceMul, Nat.reduceLeDiff, Nat.reduceLT, Nat.reduceBEq, reduceIte]) ?_
                          refine AW.one ?_
                          refine AW.test (t := (decide (i81_0 < (s79.length : Int)))) (by simp only [go_sem, Nat.reduceEqDiff, Nat.reduceAdd, Nat.reduceSub, Nat.reduceMul, Nat.reduceLeDiff, Nat.reduceLT, Nat.reduceBEq, reduceIte]) (fun hb85 => ?_) (fun hb85 => ?_)
                          · have h := ifT hb85 h
                            refine AW.skip ?_
                            try simp only [go_sem, Nat.reduceEqDiff, Nat.reduceAdd, Nat.reduceSub, Nat.reduceMul, Nat.reduceLeDiff, Nat.reduceLT, Nat.reduceBEq, reduceIte]
                            refine AW.cut [0, 1, 2, 3] [(2, .ptr 0 6 0 0), (3, .ptr 1 3 0 0), (6, accV 2 1 ((i63_1.map i64V).map (·.map .d))), (7, .d (.val (.int .i64 (IntKind.wrap .i64 ((p0.kids.length : Int) - (1 : Int)))))), (8, .d (.val (.int .i64 i63_0))), (9, .ptr 3 6 0 0), (137, .d (slD NodeA.enc s79)), (138, .d (.val (.int .i64 (s79.length : Int)))), (139, .d (.val (.int .i64 i81_0)))] [some ⟨6, [[.d (.val (.int .i64 p0.op)), .d (.val (.string p0.name)), .d (.val (.bool p0.num.neg)), .d (slD u32V p0.num.num), .d (slD u32V p0.num.den), .d (slD NodeA.enc p0.kids)]]⟩, some ⟨3, [[.d (.val (.bool p1.inDiff)), .d (.val (.bool p1.inFDiff)), .d (.val (.bool p1.inFlow))]]⟩, accO 1 ((i63_1.map i64V).map (·.map .d)), some ⟨6, [[.d (.val (.int .i64 x70.op)), .d (.val (.string x70.name)), .d (.val (.bool x70.num.neg)), .d (slD u32V x70.num.num), .d (slD u32V x70.num.den), .d (slD NodeA.enc x70.kids)]]⟩] (by simp only [go_sem, Nat.reduceEqDiff, Nat.reduceAdd, Nat.reduceSub, Nat.reduceMul, Nat.reduceLeDiff, Nat.reduceLT, Nat.reduceBEq, reduceIte]) ?_
                            refine AW.one ?_
                            obtain ⟨oJ87, h, hJ87⟩ := obind h
                            refine AW.join (S := Unit) (fun _ => [(2, .ptr 0 6 0 0), (3, .ptr 1 3 0 0), (6, accV 2 1 ((i63_1.map i64V).map (·.map .d))), (7, .d (.val (.int .i64 (IntKind.wrap .i64 ((p0.kids.length : Int) - (1 : Int)))))), (8, .d (.val (.int .i64 i63_0))), (9, .ptr 3 6 0 0), (137, .d (slD NodeA.enc s79)), (138, .d (.val (.int .i64 (s79.length : Int)))), (139, .d (.val (.int .i64 i81_0)))]) (fun _ => [some ⟨6, [[.d (.val (.int .i64 p0.op)), .d (.val (.string p0.name)), .d (.val (.bool p0.num.neg)), .d (slD u32V p0.num.num), .d (slD u32V p0.num.den), .d (slD NodeA.enc p0.kids)]]⟩, some ⟨3, [[.d (.val (.bool p1.inDiff)), .d (.val (.bool p1.inFDiff)), .d (.val (.bool p1.inFlow))]]⟩, accO 1 ((i63_1.map i64V).map (·.map .d)), some ⟨6, [[.d (.val (.int .i64 x70.op)), .d (.val (.string x70.name)), .d (.val (.bool x70.num.neg)), .d (slD u32V x70.num.num), .d (slD u32V x70.num.den), .d (slD NodeA.enc x70.kids)]]⟩]) (fun x => oJ87 = .go x) ?_ ?_
                            · skip
                              refine AW.block ?_
                              refine AW.one ?_
                              refine AW.reg mixed (by kernel_rfl) ?_
                              obtain ⟨x88, hx89, h⟩ := obind h
                              try simp only [go_sem, Nat.reduceEqDiff, Nat.reduceAdd, Nat.reduceSub, Nat.reduceMul, Nat.reduceLeDiff, Nat.reduceLT, Nat.reduceBEq, reduceIte, (idx_some hx89).1, (idx_some hx89).2]
                              refine AW.cut [0, 1, 2, 3, 6] [(2, .ptr 0 6 0 0), (3, .ptr 1 3 0 0), (6, accV 2 1 ((i63_1.map i64V).map (·.map .d))), (7, .d (.val (.int .i64 (IntKind.wrap .i64 ((p0.kids.length : Int) - (1 : Int)))))), (8, .d (.val (.int .i64 i63_0))), (9, .ptr 3 6 0 0), (11, .ptr 4 6 0 0), (137, .d (slD NodeA.enc s79)), (138, .d (.val (.int .i64 (s79.length : Int)))), (139, .d (.val (.int .i64 i81_0)))] [some ⟨6, [[.d (.val (.int .i64 p0.op)), .d (.val (.string p0.name)), .d (.val (.bool p0.num.neg)), .d (slD u32V p0.num.num), .d (slD u32V p0.num.den), .d (slD NodeA.enc p0.kids)]]⟩, some ⟨3, [[.d (.val (.bool p1.inDiff)), .d (.val (.bool p1.inFDiff)), .d (.val (.bool p1.inFlow))]]⟩, accO 1 ((i63_1.map i64V).map (·.map .d)), some ⟨6, [[.d (.val (.int .i64 x70.op)), .d (.val (.string x70.name)), .d (.val (.bool x70.num.neg)), .d (slD u32V x70.num.num), .d (slD u32V x70.num.den), .d (slD NodeA.enc x70.kids)]]⟩, some ⟨6, [[.d (.val (.int .i64 x88.op)), .d (.val (.string x88.name)), .d (.val (.bool x88.num.neg)), .d (slD u32V x88.num.num), .d (slD u32V x88.num.den), .d (slD NodeA.enc x88.kids)]]⟩] (by simp only [go_sem, Nat.reduceEqDiff, Nat.reduceAdd, Nat.reduceSub, Nat.reduceMul, Nat.reduceLeDiff, Nat.reduceLT, Nat.reduceBEq, reduceIte, (idx_some hx89).1, (idx_some hx89).2]) ?_
                              refine AW.one ?_
                              obtain ⟨oJ91, h, hJ91⟩ := obind h
                              refine AW.join (S := Bool) (fun v90_0 => [(2, .ptr 0 6 0 0), (3, .ptr 1 3 0 0), (6, accV 2 1 ((i63_1.map i64V).map (·.map .d))), (7, .d (.val (.int .i64 (IntKind.wrap .i64 ((p0.kids.length : Int) - (1 : Int)))))), (8, .d (.val (.int .i64 i63_0))), (9, .ptr 3 6 0 0), (137, .d (slD NodeA.enc s79)), (138, .d (.val (.int .i64 (s79.length : Int)))), (139, .d (.val (.int .i64 i81_0))), (152, .d (.val (.bool v90_0)))]) (fun v90_0 => [some ⟨6, [[.d (.val (.int .i64 p0.op)), .d (.val (.string p0.name)), .d (.val (.bool p0.num.neg)), .d (slD u32V p0.num.num), .d (slD u32V p0.num.den), .d (slD NodeA.enc p0.kids)]]⟩, some ⟨3, [[.d (.val (.bool p1.inDiff)), .d (.val (.bool p1.inFDiff)), .d (.val (.bool p1.inFlow))]]⟩, accO 1 ((i63_1.map i64V).map (·.map .d)), some ⟨6, [[.d (.val (.int .i64 x70.op)), .d (.val (.string x70.name)), .d (.val (.bool x70.num.neg)), .d (slD u32V x70.num.num), .d (slD u32V x70.num.den), .d (slD NodeA.enc x70.kids)]]⟩]) (fun x => x = oJ91) ?_ ?_
                              · skip
                                refine AW.reg mixed (by kernel_rfl) ?_
                                try simp only [go_sem, Nat.reduceEqDiff, Nat.reduceAdd, Nat.reduceSub, Nat.reduceMul, Nat.reduceLeDiff, Nat.reduceLT, Nat.reduceBEq, reduceIte]
                                refine splitK_intro (fun hb92 => ?_) (fun hb92 => ?_)
                                · have h := ifT hb92 h
                                  try simp only [go_sem, Nat.reduceEqDiff, Nat.reduceAdd, Nat.reduceSub, Nat.reduceMul, Nat.reduceLeDiff, Nat.reduceLT, Nat.reduceBEq, reduceIte, hb92]
                                  refine JoinQ.mk (x88.name.toList == x70.name.toList) [0, 1, 2, 3] (Option.some.inj h) (by simp only [go_sem, Nat.reduceEqDiff, Nat.reduceAdd, Nat.reduceSub, Nat.reduceMul, Nat.reduceLeDiff, Nat.reduceLT, Nat.reduceBEq, reduceIte, hb92])
                                · have h := ifF hb92 h
                                  try simp only [go_sem, Nat.reduceEqDiff, Nat.reduceAdd, Nat.reduceSub, Nat.reduceMul, Nat.reduceLeDiff, Nat.reduceLT, Nat.reduceBEq, reduceIte, hb92]
                                  refine JoinQ.mk false [0, 1, 2, 3] (Option.some.inj h) (by simp only [go_sem, Nat.reduceEqDiff, Nat.reduceAdd, Nat.reduceSub, Nat.reduceMul, Nat.reduceLeDiff, Nat.reduceLT, Nat.reduceBEq, reduceIte, hb92])
                              · rintro v90_0 rfl
                                have h := hJ91
                                try dsimp only [Out.fin] at h
                                simp only [go_sem, Nat.reduceEqDiff, Nat.reduceAdd, Nat.reduceSub, Nat.reduceMul, Nat.reduceLeDiff, Nat.reduceLT, Nat.reduceBEq, reduceIte]
                                refine AW.test (t := v90_0) (by simp only [go_sem, Nat.reduceEqDiff, Nat.reduceAdd, Nat.reduceSub, Nat.reduceMul, Nat.reduceLeDiff, Nat.reduceLT, Nat.reduceBEq, reduceIte]) (fun hb93 => ?_) (fun hb93 => ?_)
                                · have h := ifT hb93 h
                                  refine AW.one ?_
                                  refine AW.reg mixed (by kernel_rfl) ?_
                                  try simp only [go_sem, Nat.reduceEqDiff, Nat.reduceAdd, Nat.reduceSub, Nat.reduceMul, Nat.reduceLeDiff, Nat.reduceLT, Nat.reduceBEq, reduceIte]
                                  refine AW.ret ?_
                                  obtain ⟨_, h, ho⟩ := outM_some h
                                  rw [ho, Out.fin_out] at hJ87
                                  have h := h.trans hJ87
                                  obtain ⟨_, h, ho⟩ := outM_some h
                                  rw [ho, Out.fin_out] at hJ84
                                  have h := h.trans hJ84
                                  obtain ⟨_, h, ho⟩ := outM_some h
                                  rw [ho, Out.fin_out] at hJ69
                                  have h := h.trans hJ69
                                  obtain ⟨_, h, ho⟩ := outM_some h
                                  rw [ho, Out.fin_out] at hJ66
                                  have h := h.trans hJ66
                                  obtain ⟨_, h, ho⟩ := outM_some h
                                  rw [ho, Out.fin_out] at hJ26
                                  have h := h.trans hJ26
                                  obtain rfl := Option.some.inj h
                                  simp only [go_sem, Nat.reduceEqDiff, Nat.reduceAdd, Nat.reduceSub, Nat.reduceMul, Nat.reduceLeDiff, Nat.reduceLT, Nat.reduceBEq, reduceIte]
                                  exact .same _
                                · have h := ifF hb93 h
                                  refine AW.skip ?_
                                  try simp only [go_sem, Nat.reduceEqDiff, Nat.reduceAdd, Nat.reduceSub, Nat.reduceMul, Nat.reduceLeDiff, Nat.reduceLT, Nat.reduceBEq, reduceIte]
                                  refine JoinQ.mk () [0, 1, 2, 3] (Option.some.inj h).symm (by simp only [go_sem, Nat.reduceEqDiff, Nat.reduceAdd, Nat.reduceSub, Nat.reduceMul, Nat.reduceLeDiff, Nat.reduceLT, Nat.reduceBEq, reduceIte])
                            · rintro ⟨⟩ rfl
                              have h := hJ87
                              try dsimp only [Out.fin] at h
                              simp only [go_sem, Nat.reduceEqDiff, Nat.reduceAdd, Nat.reduceSub, Nat.reduceMul, Nat.reduceLeDiff, Nat.reduceLT, Nat.reduceBEq, reduceIte]
                              refine AW.reg mixed (by kernel_rfl) ?_
                              try simp only [go_sem, Nat.reduceEqDiff, Nat.reduceAdd, Nat.reduceSub, Nat.reduceMul, Nat.reduceLeDiff, Nat.reduceLT, Nat.reduceBEq, reduceIte]
                              refine NextQ.mk (IntKind.wrap .i64 (i81_0 + (1 : Int))) [0, 1, 2, 3] h (by simp only [go_sem, Nat.reduceEqDiff, Nat.reduceAdd, Nat.reduceSub, Nat.reduceMul, Nat.reduceLeDiff, Nat.reduceLT, Nat.reduceBEq, reduceIte])
                          · have h := ifF hb85 h
                            refine AW.exit ?_
                            try simp only [go_sem, Nat.reduceEqDiff, Nat.reduceAdd, Nat.reduceSub, Nat.reduceMul, Nat.reduceLeDiff, Nat.reduceLT, Nat.reduceBEq, reduceIte]
                            refine JoinQ.mk () [0, 1, 2] (Option.some.inj h).symm (by simp only [go_sem, Nat.reduceEqDiff, Nat.reduceAdd, Nat.reduceSub, Nat.reduceMul, Nat.reduceLeDiff, Nat.reduceLT, Nat.reduceBEq, reduceIte])
                        · rintro ⟨⟩ rfl
                          have h := hJ84
                          try dsimp only [Out.fin] at h
                          simp only [go_sem, Nat.reduceEqDiff, Nat.reduceAdd, Nat.reduceSub, Nat.reduceMul, Nat.reduceLeDiff, Nat.reduceLT, Nat.reduceBEq, reduceIte]
                          refine AW.cut [0, 1, 2] [(2, .ptr 0 6 0 0), (3, .ptr 1 3 0 0), (6, accV 2 1 ((i63_1.map i64V).map (·.map .d))), (7, .d (.val (.int .i64 (IntKind.wrap .i64 ((p0.kids.length : Int) - (1 : Int)))))), (8, .d (.val (.int .i64 i63_0)))] [some ⟨6, [[.d (.val (.int .i64 p0.op)), .d (.val (.string p0.name)), .d (.val (.bool p0.num.neg)), .d (slD u32V p0.num.num), .d (slD u32V p0.num.den), .d (slD NodeA.enc p0.kids)]]⟩, some ⟨3, [[.d (.val (.bool p1.inDiff)), .d (.val (.bool p1.inFDiff)), .d (.val (.bool p1.inFlow))]]⟩, accO 1 ((i63_1.map i64V).map (·.map .d))] (by simp only [go_sem, Nat.reduceEqDiff, Nat.reduceAdd, Nat.reduceSub, Nat.reduceMul, Nat.reduceLeDiff, Nat.reduceLT, Nat.reduceBEq, reduceIte]) ?_
                          refine AW.reg mixed (by kernel_rfl) ?_
                          try simp only [go_sem, Nat.reduceEqDiff, Nat.reduceAdd, Nat.reduceSub, Nat.reduceMul, Nat.reduceLeDiff, Nat.reduceLT, Nat.reduceBEq, reduceIte]
                          obtain ⟨l94, hx95, h⟩ := obind h
                          refine appG hx95 rfl (by simp only [go_sem, Nat.reduceEqDiff, Nat.reduceAdd, Nat.reduceSub, Nat.reduceMul, Nat.reduceLeDiff, Nat.reduceLT, Nat.reduceBEq, reduceIte]) (by simp only [go_sem, Nat.reduceEqDiff, Nat.reduceAdd, Nat.reduceSub, Nat.reduceMul, Nat.reduceLeDiff, Nat.reduceLT, Nat.reduceBEq, reduceIte]) (by simp only [go_sem, Nat.reduceEqDiff, Nat.reduceAdd, Nat.reduceSub, Nat.reduceMul, Nat.reduceLeDiff, Nat.reduceLT, Nat.reduceBEq, reduceIte]) (by simp) ?_
                          try simp only [go_sem, Nat.reduceEqDiff, Nat.reduceAdd, Nat.reduceSub, Nat.reduceMul, Nat.reduceLeDiff, Nat.reduceLT, Nat.reduceBEq, reduceIte]
                          refine JoinQ.mk l94 [0, 1, 5] (Option.some.inj h).symm (by simp only [go_sem, Nat.reduceEqDiff, Nat.reduceAdd, Nat.reduceSub, Nat.reduceMul, Nat.reduceLeDiff, Nat.reduceLT, Nat.reduceBEq, reduceIte])
                    · rintro v68_0 rfl
                      have h := hJ69
                      try dsimp only [Out.fin] at h
                      simp only [go_sem, Nat.reduceEqDiff, Nat.reduceAdd, Nat.reduceSub, Nat.reduceMul, Nat.reduceLeDiff, Nat.reduceLT, Nat.reduceBEq, reduceIte]
                      refine AW.reg mixed (by kernel_rfl) ?_
                      try simp only [go_sem, Nat.reduceEqDiff, Nat.reduceAdd, Nat.reduceSub, Nat.reduceMul, Nat.reduceLeDiff, Nat.reduceLT, Nat.reduceBEq, reduceIte]
                      refine NextQ.mk (IntKind.wrap .i64 (i63_0 + (1 : Int)), v68_0) [0, 1, 2] h (by simp only [go_sem, Nat.reduceEqDiff, Nat.reduceAdd, Nat.reduceSub, Nat.reduceMul, Nat.reduceLeDiff, Nat.reduceLT, Nat.reduceBEq, reduceIte])
                  · have h := ifF hb67 h
                    refine AW.exit ?_
                    try simp only [go_sem, Nat.reduceEqDiff, Nat.reduceAdd, Nat.reduceSub, Nat.reduceMul, Nat.reduceLeDiff, Nat.reduceLT, Nat.reduceBEq, reduceIte]
                    refine JoinQ.mk i63_1 [0, 1, 2] (Option.some.inj h).symm (by simp only [go_sem, Nat.reduceEqDiff, Nat.reduceAdd, Nat.reduceSub, Nat.reduceMul, Nat.reduceLeDiff, Nat.reduceLT, Nat.reduceBEq, reduceIte])
                · rintro e64_0 rfl
                  have h := hJ66
                  try dsimp only [Out.fin] at h
                  simp only [go_sem, Nat.reduceEqDiff, Nat.reduceAdd, Nat.reduceSub, Nat.reduceMul, Nat.reduceLeDiff, Nat.reduceLT, Nat.reduceBEq, reduceIte]
                  refine AW.cut [0, 1, 2] [(2, .ptr 0 6 0 0), (3, .ptr 1 3 0 0), (6, accV 2 1 ((e64_0.map i64V).map (·.map .d)))] [some ⟨6, [[.d (.val (.int .i64 p0.op)), .d (.val (.string p0.name)), .d (.val (.bool p0.num.neg)), .d (slD u32V p0.num.num), .d (slD u32V p0.num.den), .d (slD NodeA.enc p0.kids)]]⟩, some ⟨3, [[.d (.val (.bool p1.inDiff)), .d (.val (.bool p1.inFDiff)), .d (.val (.bool p1.inFlow))]]⟩, accO 1 ((e64_0.map i64V).map (·.map .d))] (by simp only [go_sem, Nat.reduceEqDiff, Nat.reduceAdd, Nat.reduceSub, Nat.reduceMul, Nat.reduceLeDiff, Nat.reduceLT, Nat.reduceBEq, reduceIte]) ?_
                  refine AW.one ?_
                  refine AW.reg mixed (by kernel_rfl) ?_
                  try simp only [go_sem, Nat.reduceEqDiff, Nat.reduceAdd, Nat.reduceSub, Nat.reduceMul, Nat.reduceLeDiff, Nat.reduceLT, Nat.reduceBEq, reduceIte]
                  obtain ⟨l96, hx97, h⟩ := obind h
                  refine appG hx97 rfl (by simp only [go_sem, Nat.reduceEqDiff, Nat.reduceAdd, Nat.reduceSub, Nat.reduceMul, Nat.reduceLeDiff, Nat.reduceLT, Nat.reduceBEq, reduceIte]) (by simp only [go_sem, Nat.reduceEqDiff, Nat.reduceAdd, Nat.reduceSub, Nat.reduceMul, Nat.reduceLeDiff, Nat.reduceLT, Nat.reduceBEq, reduceIte]) (by simp only [go_sem, Nat.reduceEqDiff, Nat.reduceAdd, Nat.reduceSub, Nat.reduceMul, Nat.reduceLeDiff, Nat.reduceLT, Nat.reduceBEq, reduceIte]) (by simp) ?_
                  try simp only [go_sem, Nat.reduceEqDiff, Nat.reduceAdd, Nat.reduceSub, Nat.reduceMul, Nat.reduceLeDiff, Nat.reduceLT, Nat.reduceBEq, reduceIte]
                  refine AW.cut [0, 1, 5] [(2, .ptr 0 6 0 0), (3, .ptr 1 3 0 0), (6, accV 2 1 ((l96.map i64V).map (·.map .d)))] [some ⟨6, [[.d (.val (.int .i64 p0.op)), .d (.val (.string p0.name)), .d (.val (.bool p0.num.neg)), .d (slD u32V p0.num.num), .d (slD u32V p0.num.den), .d (slD NodeA.enc p0.kids)]]⟩, some ⟨3, [[.d (.val (.bool p1.inDiff)), .d (.val (.bool p1.inFDiff)), .d (.val (.bool p1.inFlow))]]⟩, accO 1 ((l96.map i64V).map (·.map .d))] (by simp only [go_sem, Nat.reduceEqDiff, Nat.reduceAdd, Nat.reduceSub, Nat.reduceMul, Nat.reduceLeDiff, Nat.reduceLT, Nat.reduceBEq, reduceIte]) ?_
                  refine AW.reg mixed (by kernel_rfl) ?_
                  try simp only [go_sem, Nat.reduceEqDiff, Nat.reduceAdd, Nat.reduceSub, Nat.reduceMul, Nat.reduceLeDiff, Nat.reduceLT, Nat.reduceBEq, reduceIte]
                  refine JoinQ.mkS (l96, (Tree_placeA.mk p1.inDiff p1.inFDiff true)) [0, 1] [2] [(6, .d (slD i64V l96))] (Option.some.inj h).symm (by simp only [go_sem, Nat.reduceEqDiff, Nat.reduceAdd, Nat.reduceSub, Nat.reduceMul, Nat.reduceLeDiff, Nat.reduceLT, Nat.reduceBEq, reduceIte, sealL_cons, sealL_nil]; exact sealAcc (by simp only [go_sem, Nat.reduceEqDiff, Nat.reduceAdd, Nat.reduceSub, Nat.reduceMul, Nat.reduceLeDiff, Nat.reduceLT, Nat.reduceBEq, reduceIte])) (by simp only [go_sem, Nat.reduceEqDiff, Nat.reduceAdd, Nat.reduceSub, Nat.reduceMul, Nat.reduceLeDiff, Nat.reduceLT, Nat.reduceBEq, reduceIte])
            · have h := ifF hb51 h
              refine AW.one ?_
              refine AW.reg mixed (by kernel_rfl) ?_
              try simp only [go_sem, Nat.reduceEqDiff, Nat.reduceAdd, Nat.reduceSub, Nat.reduceMul, Nat.reduceLeDiff, Nat.reduceLT, Nat.reduceBEq, reduceIte]
              refine AW.cut [0, 1] [(2, .ptr 0 6 0 0), (3, .ptr 1 3 0 0), (6, nilV i64V r12.2), (72, .d (.val (.int .i64 p0.op))), (161, .d (.val (.bool (p0.op == (3 : Int)))))] [some ⟨6, [[.d (.val (.int .i64 p0.op)), .d (.val (.string p0.name)), .d (.val (.bool p0.num.neg)), .d (slD u32V p0.num.num), .d (slD u32V p0.num.den), .d (slD NodeA.enc p0.kids)]]⟩, some ⟨3, [[.d (.val (.bool p1.inDiff)), .d (.val (.bool p1.inFDiff)), .d (.val (.bool p1.inFlow))]]⟩] (by simp only [go_sem, Nat.reduceEqDiff, Nat.reduceAdd, Nat.reduceSub, Nat.reduceMul, Nat.reduceLeDiff, Nat.reduceLT, Nat.reduceBEq, reduceIte]) ?_
              refine AW.test (t := (p0.op == (3 : Int))) (by simp only [go_sem, Nat.reduceEqDiff, Nat.reduceAdd, Nat.reduceSub, Nat.reduceMul, Nat.reduceLeDiff, Nat.reduceLT, Nat.reduceBEq, reduceIte]) (fun hb98 => ?_) (fun hb98 => ?_)
              · have h := ifT hb98 h
                refine AW.one ?_
                obtain ⟨oJ100, h, hJ100⟩ := obind h
                refine AW.join (S := Bool) (fun v99_0 => [(2, .ptr 0 6 0 0), (3, .ptr 1 3 0 0), (6, nilV i64V r12.2), (172, .d (.val (.bool v99_0)))]) (fun v99_0 => [some ⟨6, [[.d (.val (.int .i64 p0.op)), .d (.val (.string p0.name)), .d (.val (.bool p0.num.neg)), .d (slD u32V p0.num.num), .d (slD u32V p0.num.den), .d (slD NodeA.enc p0.kids)]]⟩, some ⟨3, [[.d (.val (.bool p1.inDiff)), .d (.val (.bool p1.inFDiff)), .d (.val (.bool p1.inFlow))]]⟩]) (fun x => x = oJ100) ?_ ?_
                · skip
                  refine AW.reg mixed (by kernel_rfl) ?_
                  try simp only [go_sem, Nat.reduceEqDiff, Nat.reduceAdd, Nat.reduceSub, Nat.reduceMul, Nat.reduceLeDiff, Nat.reduceLT, Nat.reduceBEq, reduceIte]
                  refine splitK_intro (fun hb101 => ?_) (fun hb101 => ?_)
                  · have h := ifT hb101 h
                    try simp only [go_sem, Nat.reduceEqDiff, Nat.reduceAdd, Nat.reduceSub, Nat.reduceMul, Nat.reduceLeDiff, Nat.reduceLT, Nat.reduceBEq, reduceIte, hb101]
                    refine JoinQ.mk true [0, 1] (Option.some.inj h) (by simp only [go_sem, Nat.reduceEqDiff, Nat.reduceAdd, Nat.reduceSub, Nat.reduceMul, Nat.reduceLeDiff, Nat.reduceLT, Nat.reduceBEq, reduceIte, hb101])
                  · have h := ifF hb101 h
                    try simp only [go_sem, Nat.reduceEqDiff, Nat.reduceAdd, Nat.reduceSub, Nat.reduceMul, Nat.reduceLeDiff, Nat.reduceLT, Nat.reduceBEq, reduceIte, hb101]
                    refine splitK_intro (fun hb102 => ?_) (fun hb102 => ?_)
                    · have h := ifT hb102 h
                      try simp only [go_sem, Nat.reduceEqDiff, Nat.reduceAdd, Nat.reduceSub, Nat.reduceMul, Nat.reduceLeDiff, Nat.reduceLT, Nat.reduceBEq, reduceIte, hb101, hb102]
                      refine JoinQ.mk true [0, 1] (Option.some.inj h) (by simp only [go_sem, Nat.reduceEqDiff, Nat.reduceAdd, Nat.reduceSub, Nat.reduceMul, Nat.reduceLeDiff, Nat.reduceLT, Nat.reduceBEq, reduceIte, hb101, hb102])
                    · have h := ifF hb102 h
                      try simp only [go_sem, Nat.reduceEqDiff, Nat.reduceAdd, Nat.reduceSub, Nat.reduceMul, Nat.reduceLeDiff, Nat.reduceLT, Nat.reduceBEq, reduceIte, hb101, hb102]
                      refine JoinQ.mk p1.inFlow [0, 1] (Option.some.inj h) (by simp only [go_sem, Nat.reduceEqDiff, Nat.reduceAdd, Nat.reduceSub, Nat.reduceMul, Nat.reduceLeDiff, Nat.reduceLT, Nat.reduceBEq, reduceIte, hb101, hb102])
                · rintro v99_0 rfl
                  have h := hJ100
                  try dsimp only [Out.fin] at h
                  simp only [go_sem, Nat.reduceEqDiff, Nat.reduceAdd, Nat.reduceSub, Nat.reduceMul, Nat.reduceLeDiff, Nat.reduceLT, Nat.reduceBEq, reduceIte]
                  refine AW.test (t := v99_0) (by simp only [go_sem, Nat.reduceEqDiff, Nat.reduceAdd, Nat.reduceSub, Nat.reduceMul, Nat.reduceLeDiff, Nat.reduceLT, Nat.reduceBEq, reduceIte]) (fun hb103 => ?_) (fun hb103 => ?_)
                  · have h := ifT hb103 h
                    refine AW.one ?_
                    refine AW.reg mixed (by kernel_rfl) ?_
                    try simp only [go_sem, Nat.reduceEqDiff, Nat.reduceAdd, Nat.reduceSub, Nat.reduceMul, Nat.reduceLeDiff, Nat.reduceLT, Nat.reduceBEq, reduceIte]
                    refine AW.ret ?_
                    obtain ⟨_, h, ho⟩ := outM_some h
                    rw [ho, Out.fin_out] at hJ26
                    have h := h.trans hJ26
                    obtain rfl := Option.some.inj h
                    simp only [go_sem, Nat.reduceEqDiff, Nat.reduceAdd, Nat.reduceSub, Nat.reduceMul, Nat.reduceLeDiff, Nat.reduceLT, Nat.reduceBEq, reduceIte]
                    exact .same _
                  · have h := ifF hb103 h
                    refine AW.skip ?_
                    try simp only [go_sem, Nat.reduceEqDiff, Nat.reduceAdd, Nat.reduceSub, Nat.reduceMul, Nat.reduceLeDiff, Nat.reduceLT, Nat.reduceBEq, reduceIte]
                    refine JoinQ.mkS ((r12.2.getD []), p1) [0, 1] [] [(6, .d (slD i64V (r12.2.getD [])))] (Option.some.inj h).symm (by simp only [go_sem, Nat.reduceEqDiff, Nat.reduceAdd, Nat.reduceSub, Nat.reduceMul, Nat.reduceLeDiff, Nat.reduceLT, Nat.reduceBEq, reduceIte, sealL_cons, sealL_nil]; exact sealNil) (by simp only [go_sem, Nat.reduceEqDiff, Nat.reduceAdd, Nat.reduceSub, Nat.reduceMul, Nat.reduceLeDiff, Nat.reduceLT, Nat.reduceBEq, reduceIte])
              · have h := ifF hb98 h
                refine AW.one ?_
                refine AW.reg mixed (by kernel_rfl) ?_
                try simp only [go_sem, Nat.reduceEqDiff, Nat.reduceAdd, Nat.reduceSub, Nat.reduceMul, Nat.reduceLeDiff, Nat.reduceLT, Nat.reduceBEq, reduceIte]
                refine AW.cut [0, 1] [(2, .ptr 0 6 0 0), (3, .ptr 1 3 0 0), (6, nilV i64V r12.2), (72, .d (.val (.int .i64 p0.op))), (173, .d (.val (.bool (p0.op == (12 : Int)))))] [some ⟨6, [[.d (.val (.int .i64 p0.op)), .d (.val (.string p0.name)), .d (.val (.bool p0.num.neg)), .d (slD u32V p0.num.num), .d (slD u32V p0.num.den), .d (slD NodeA.enc p0.kids)]]⟩, some ⟨3, [[.d (.val (.bool p1.inDiff)), .d (.val (.bool p1.inFDiff)), .d (.val (.bool p1.inFlow))]]⟩] (by simp only [go_sem, Nat.reduceEqDiff, Nat.reduceAdd, Nat.reduceSub, Nat.reduceMul, Nat.reduceLeDiff, Nat.reduceLT, Nat.reduceBEq, reduceIte]) ?_
                refine AW.test (t := (p0.op == (12 : Int))) (by simp only [go_sem, Nat.reduceEqDiff, Nat.reduceAdd, Nat.reduceSub, Nat.reduceMul, Nat.reduceLeDiff, Nat.reduceLT, Nat.reduceBEq, reduceIte]) (fun hb104 => ?_) (fun hb104 => ?_)
                · have h := ifT hb104 h
                  refine AW.one ?_
                  obtain ⟨oJ106, h, hJ106⟩ := obind h
                  refine AW.join (S := Unit) (fun _ => [(2, .ptr 0 6 0 0), (3, .ptr 1 3 0 0), (6, nilV i64V r12.2)]) (fun _ => [some ⟨6, [[.d (.val (.int .i64 p0.op)), .d (.val (.string p0.name)), .d (.val (.bool p0.num.neg)), .d (slD u32V p0.num.num), .d (slD u32V p0.num.den), .d (slD NodeA.enc p0.kids)]]⟩, some ⟨3, [[.d (.val (.bool p1.inDiff)), .d (.val (.bool p1.inFDiff)), .d (.val (.bool p1.inFlow))]]⟩]) (fun x => oJ106 = .go x) ?_ ?_
                  · skip
                    refine AW.one ?_
                    obtain ⟨oJ108, h, hJ108⟩ := obind h
                    refine AW.join (S := Bool) (fun v107_0 => [(2, .ptr 0 6 0 0), (3, .ptr 1 3 0 0), (6, nilV i64V r12.2), (180, .d (.val (.bool v107_0)))]) (fun v107_0 => [some ⟨6, [[.d (.val (.int .i64 p0.op)), .d (.val (.string p0.name)), .d (.val (.bool p0.num.neg)), .d (slD u32V p0.num.num), .d (slD u32V p0.num.den), .d (slD NodeA.enc p0.kids)]]⟩, some ⟨3, [[.d (.val (.bool p1.inDiff)), .d (.val (.bool p1.inFDiff)), .d (.val (.bool p1.inFlow))]]⟩]) (fun x => x = oJ108) ?_ ?_
                    · skip
                      refine AW.reg mixed (by kernel_rfl) ?_
                      try simp only [go_sem, Nat.reduceEqDiff, Nat.reduceAdd, Nat.reduceSub, Nat.reduceMul, Nat.reduceLeDiff, Nat.reduceLT, Nat.reduceBEq, reduceIte]
                      refine splitK_intro (fun hb109 => ?_) (fun hb109 => ?_)
                      · have h := ifT hb109 h
                        try simp only [go_sem, Nat.reduceEqDiff, Nat.reduceAdd, Nat.reduceSub, Nat.reduceMul, Nat.reduceLeDiff, Nat.reduceLT, Nat.reduceBEq, reduceIte, hb109]
                        refine JoinQ.mk true [0, 1] (Option.some.inj h) (by simp only [go_sem, Nat.reduceEqDiff, Nat.reduceAdd, Nat.reduceSub, Nat.reduceMul, Nat.reduceLeDiff, Nat.reduceLT, Nat.reduceBEq, reduceIte, hb109])
                      · have h := ifF hb109 h
                        try simp only [go_sem, Nat.reduceEqDiff, Nat.reduceAdd, Nat.reduceSub, Nat.reduceMul, Nat.reduceLeDiff, Nat.reduceLT, Nat.reduceBEq, reduceIte, hb109]
                        refine JoinQ.mk p1.inFlow [0, 1] (Option.some.inj h) (by simp only [go_sem, Nat.reduceEqDiff, Nat.reduceAdd, Nat.reduceSub, Nat.reduceMul, Nat.reduceLeDiff, Nat.reduceLT, Nat.reduceBEq, reduceIte, hb109])
                    · rintro v107_0 rfl
                      have h := hJ108
                      try dsimp only [Out.fin] at h
                      simp only [go_sem, Nat.reduceEqDiff, Nat.reduceAdd, Nat.reduceSub, Nat.reduceMul, Nat.reduceLeDiff, Nat.reduceLT, Nat.reduceBEq, reduceIte]
                      refine AW.test (t := v107_0) (by simp only [go_sem, Nat.reduceEqDiff, Nat.reduceAdd, Nat.reduceSub, Nat.reduceMul, Nat.reduceLeDiff, Nat.reduceLT, Nat.reduceBEq, reduceIte]) (fun hb110 => ?_) (fun hb110 => ?_)
                      · have h := ifT hb110 h
                        refine AW.one ?_
                        refine AW.reg mixed (by kernel_rfl) ?_
                        try simp only [go_sem, Nat.reduceEqDiff, Nat.reduceAdd, Nat.reduceSub, Nat.reduceMul, Nat.reduceLeDiff, Nat.reduceLT, Nat.reduceBEq, reduceIte]
                        refine AW.ret ?_
                        obtain ⟨_, h, ho⟩ := outM_some h
                        rw [ho, Out.fin_out] at hJ106
                        have h := h.trans hJ106
                        obtain ⟨_, h, ho⟩ := outM_some h
                        rw [ho, Out.fin_out] at hJ26
                        have h := h.trans hJ26
                        obtain rfl := Option.some.inj h
                        simp only [go_sem, Nat.reduceEqDiff, Nat.reduceAdd, Nat.reduceSub, Nat.reduceMul, Nat.reduceLeDiff, Nat.reduceLT, Nat.reduceBEq, reduceIte]
                        exact .same _
                      · have h := ifF hb110 h
                        refine AW.skip ?_
                        try simp only [go_sem, Nat.reduceEqDiff, Nat.reduceAdd, Nat.reduceSub, Nat.reduceMul, Nat.reduceLeDiff, Nat.reduceLT, Nat.reduceBEq, reduceIte]
                        refine JoinQ.mk () [0, 1] (Option.some.inj h).symm (by simp only [go_sem, Nat.reduceEqDiff, Nat.reduceAdd, Nat.reduceSub, Nat.reduceMul, Nat.reduceLeDiff, Nat.reduceLT, Nat.reduceBEq, reduceIte])
                  · rintro ⟨⟩ rfl
                    have h := hJ106
                    try dsimp only [Out.fin] at h
                    simp only [go_sem, Nat.reduceEqDiff, Nat.reduceAdd, Nat.reduceSub, Nat.reduceMul, Nat.reduceLeDiff, Nat.reduceLT, Nat.reduceBEq, reduceIte]
                    refine AW.reg mixed (by kernel_rfl) ?_
                    try simp only [go_sem, Nat.reduceEqDiff, Nat.reduceAdd, Nat.reduceSub, Nat.reduceMul, Nat.reduceLeDiff, Nat.reduceLT, Nat.reduceBEq, reduceIte]
                    refine JoinQ.mkS ((r12.2.getD []), (Tree_placeA.mk true p1.inFDiff p1.inFlow)) [0, 1] [] [(6, .d (slD i64V (r12.2.getD [])))] (Option.some.inj h).symm (by simp only [go_sem, Nat.reduceEqDiff, Nat.reduceAdd, Nat.reduceSub, Nat.reduceMul, Nat.reduceLeDiff, Nat.reduceLT, Nat.reduceBEq, reduceIte, sealL_cons, sealL_nil]; exact sealNil) (by simp only [go_sem, Nat.reduceEqDiff, Nat.reduceAdd, Nat.reduceSub, Nat.reduceMul, Nat.reduceLeDiff, Nat.reduceLT, Nat.reduceBEq, reduceIte])
                · have h := ifF hb104 h
                  refine AW.one ?_
                  refine AW.reg mixed (by kernel_rfl) ?_
                  try simp only [go_sem, Nat.reduceEqDiff, Nat.reduceAdd, Nat.reduceSub, Nat.reduceMul, Nat.reduceLeDiff, Nat.reduceLT, Nat.reduceBEq, reduceIte]
                  refine AW.cut [0, 1] [(2, .ptr 0 6 0 0), (3, .ptr 1 3 0 0), (6, nilV i64V r12.2), (182, .d (.val (.bool (p0.op == (39 : Int)))))] [some ⟨6, [[.d (.val (.int .i64 p0.op)), .d (.val (.string p0.name)), .d (.val (.bool p0.num.neg)), .d (slD u32V p0.num.num), .d (slD u32V p0.num.den), .d (slD NodeA.enc p0.kids)]]⟩, some ⟨3, [[.d (.val (.bool p1.inDiff)), .d (.val (.bool p1.inFDiff)), .d (.val (.bool p1.inFlow))]]⟩] (by simp only [go_sem, Nat.reduceEqDiff, Nat.reduceAdd, Nat.reduceSub, Nat.reduceMul, Nat.reduceLeDiff, Nat.reduceLT, Nat.reduceBEq, reduceIte]) ?_
                  refine AW.test (t := (p0.op == (39 : Int))) (by simp only [go_sem, Nat.reduceEqDiff, Nat.reduceAdd, Nat.reduceSub, Nat.reduceMul, Nat.reduceLeDiff, Nat.reduceLT, Nat.reduceBEq, reduceIte]) (fun hb111 => ?_) (fun hb111 => ?_)
                  · have h := ifT hb111 h
                    refine AW.one ?_
                    obtain ⟨oJ113, h, hJ113⟩ := obind h
                    refine AW.join (S := Unit) (fun _ => [(2, .ptr 0 6 0 0), (3, .ptr 1 3 0 0), (6, nilV i64V r12.2)]) (fun _ => [some ⟨6, [[.d (.val (.int .i64 p0.op)), .d (.val (.string p0.name)), .d (.val (.bool p0.num.neg)), .d (slD u32V p0.num.num), .d (slD u32V p0.num.den), .d (slD NodeA.enc p0.kids)]]⟩, some ⟨3, [[.d (.val (.bool p1.inDiff)), .d (.val (.bool p1.inFDiff)), .d (.val (.bool p1.inFlow))]]⟩]) (fun x => oJ113 = .go x) ?_ ?_
                    · skip
                      refine AW.one ?_
                      obtain ⟨oJ115, h, hJ115⟩ := obind h
                      refine AW.join (S := Bool) (fun v114_0 => [(2, .ptr 0 6 0 0), (3, .ptr 1 3 0 0), (6, nilV i64V r12.2), (199, .d (.val (.bool v114_0)))]) (fun v114_0 => [some ⟨6, [[.d (.val (.int .i64 p0.op)), .d (.val (.string p0.name)), .d (.val (.bool p0.num.neg)), .d (slD u32V p0.num.num), .d (slD u32V p0.num.den), .d (slD NodeA.enc p0.kids)]]⟩, some ⟨3, [[.d (.val (.bool p1.inDiff)), .d (.val (.bool p1.inFDiff)), .d (.val (.bool p1.inFlow))]]⟩]) (fun x => x = oJ115) ?_ ?_
                      · skip
                        refine AW.reg mixed (by kernel_rfl) ?_
                        try simp only [go_sem, Nat.reduceEqDiff, Nat.reduceAdd, Nat.reduceSub, Nat.reduceMul, Nat.reduceLeDiff, Nat.reduceLT, Nat.reduceBEq, reduceIte]
                        refine splitK_intro (fun hb116 => ?_) (fun hb116 => ?_)
                        · have h := ifT hb116 h
                          try simp only [go_sem, Nat.reduceEqDiff, Nat.reduceAdd, Nat.reduceSub, Nat.reduceMul, Nat.reduceLeDiff, Nat.reduceLT, Nat.reduceBEq, reduceIte, hb116]
                          refine JoinQ.mk true [0, 1] (Option.some.inj h) (by simp only [go_sem, Nat.reduceEqDiff, Nat.reduceAdd, Nat.reduceSub, Nat.reduceMul, Nat.reduceLeDiff, Nat.reduceLT, Nat.reduceBEq, reduceIte, hb116])
                        · have h := ifF hb116 h
                          try simp only [go_sem, Nat.reduceEqDiff, Nat.reduceAdd, Nat.reduceSub, Nat.reduceMul, Nat.reduceLeDiff, Nat.reduceLT, Nat.reduceBEq, reduceIte, hb116]
                          refine splitK_intro (fun hb117 => ?_) (fun hb117 => ?_)
                          · have h := ifT hb117 h
                            try simp only [go_sem, Nat.reduceEqDiff, Nat.reduceAdd, Nat.reduceSub, Nat.reduceMul, Nat.reduceLeDiff, Nat.reduceLT, Nat.reduceBEq, reduceIte, hb116, hb117]
                            refine JoinQ.mk true [0, 1] (Option.some.inj h) (by simp only [go_sem, Nat.reduceEqDiff, Nat.reduceAdd, Nat.reduceSub, Nat.reduceMul, Nat.reduceLeDiff, Nat.reduceLT, Nat.reduceBEq, reduceIte, hb116, hb117])
                          · have h := ifF hb117 h
                            obtain ⟨x118, hx119, h⟩ := obind h
                            try simp only [go_sem, Nat.reduceEqDiff, Nat.reduceAdd, Nat.reduceSub, Nat.reduceMul, Nat.reduceLeDiff, Nat.reduceLT, Nat.reduceBEq, reduceIte, hb116, hb117, (idx_some hx119).1, (idx_some hx119).2]
                            obtain ⟨r120, hx121, h⟩ := obind h
                            have hc := tree_differentiable_ok (h := hx121)
                            try simp only [NodeA.enc_eta, RatA.enc_eta, aggV, i64V, u32V, strV, List.map_cons, List.map_nil] at hc
                            refine callK_pure hc (by simp only [go_sem, Nat.reduceEqDiff, Nat.reduceAdd, Nat.reduceSub, Nat.reduceMul, Nat.reduceLeDiff, Nat.reduceLT, Nat.reduceBEq, reduceIte]) ?_
                            try simp only [go_sem, Nat.reduceEqDiff, Nat.reduceAdd, Nat.reduceSub, Nat.reduceMul, Nat.reduceLeDiff, Nat.reduceLT, Nat.reduceBEq, reduceIte, hb116, hb117, (idx_some hx119).1, (idx_some hx119).2]
                            refine JoinQ.mk (!r120) [0, 1] (Option.some.inj h) (by simp only [go_sem, Nat.reduceEqDiff, Nat.reduceAdd, Nat.reduceSub, Nat.reduceMul, Nat.reduceLeDiff, Nat.reduceLT, Nat.reduceBEq, reduceIte, hb116, hb117, (idx_some hx119).1, (idx_some hx119).2])
                      · rintro v114_0 rfl
                        have h := hJ115
                        try dsimp only [Out.fin] at h
                        simp only [go_sem, Nat.reduceEqDiff, Nat.reduceAdd, Nat.reduceSub, Nat.reduceMul, Nat.reduceLeDiff, Nat.reduceLT, Nat.reduceBEq, reduceIte]
                        refine AW.test (t := v114_0) (by simp only [go_sem, Nat.reduceEqDiff, Nat.reduceAdd, Nat.reduceSub, Nat.reduceMul, Nat.reduceLeDiff, Nat.reduceLT, Nat.reduceBEq, reduceIte]) (fun hb122 => ?_) (fun hb122 => ?_)
                        · have h := ifT hb122 h
                          refine AW.one ?_
                          refine AW.reg mixed (by kernel_rfl) ?_
                          try simp only [go_sem, Nat.reduceEqDiff, Nat.reduceAdd, Nat.reduceSub, Nat.reduceMul, Nat.reduceLeDiff, Nat.reduceLT, Nat.reduceBEq, reduceIte]
                          refine AW.ret ?_
                          obtain ⟨_, h, ho⟩ := outM_some h
                          rw [ho, Out.fin_out] at hJ113
                          have h := h.trans hJ113
                          obtain ⟨_, h, ho⟩ := outM_some h
                          rw [ho, Out.fin_out] at hJ26
                          have h := h.trans hJ26
                          obtain rfl := Option.some.inj h
                          simp only [go_sem, Nat.reduceEqDiff, Nat.reduceAdd, Nat.reduceSub, Nat.reduceMul, Nat.reduceLeDiff, Nat.reduceLT, Nat.reduceBEq, reduceIte]
                          exact .same _
                        · have h := ifF hb122 h
                          refine AW.skip ?_
                          try simp only [go_sem, Nat.reduceEqDiff, Nat.reduceAdd, Nat.reduceSub, Nat.reduceMul, Nat.reduceLeDiff, Nat.reduceLT, Nat.reduceBEq, reduceIte]
                          refine JoinQ.mk () [0, 1] (Option.some.inj h).symm (by simp only [go_sem, Nat.reduceEqDiff, Nat.reduceAdd, Nat.reduceSub, Nat.reduceMul, Nat.reduceLeDiff, Nat.reduceLT, Nat.reduceBEq, reduceIte])
                    · rintro ⟨⟩ rfl
                      have h := hJ113
                      try dsimp only [Out.fin] at h
                      simp only [go_sem, Nat.reduceEqDiff, Nat.reduceAdd, Nat.reduceSub, Nat.reduceMul, Nat.reduceLeDiff, Nat.reduceLT, Nat.reduceBEq, reduceIte]
                      refine AW.reg mixed (by kernel_rfl) ?_
                      try simp only [go_sem, Nat.reduceEqDiff, Nat.reduceAdd, Nat.reduceSub, Nat.reduceMul, Nat.reduceLeDiff, Nat.reduceLT, Nat.reduceBEq, reduceIte]
                      refine JoinQ.mkS ((r12.2.getD []), (Tree_placeA.mk p1.inDiff true p1.inFlow)) [0, 1] [] [(6, .d (slD i64V (r12.2.getD [])))] (Option.some.inj h).symm (by simp only [go_sem, Nat.reduceEqDiff, Nat.reduceAdd, Nat.reduceSub, Nat.reduceMul, Nat.reduceLeDiff, Nat.reduceLT, Nat.reduceBEq, reduceIte, sealL_cons, sealL_nil]; exact sealNil) (by simp only [go_sem, Nat.reduceEqDiff, Nat.reduceAdd, Nat.reduceSub, Nat.reduceMul, Nat.reduceLeDiff, Nat.reduceLT, Nat.reduceBEq, reduceIte])
                  · have h := ifF hb111 h
                    refine AW.skip ?_
                    try simp only [go_sem, Nat.reduceEqDiff, Nat.reduceAdd, Nat.reduceSub, Nat.reduceMul, Nat.reduceLeDiff, Nat.reduceLT, Nat.reduceBEq, reduceIte]
                    refine JoinQ.mkS ((r12.2.getD []), p1) [0, 1] [] [(6, .d (slD i64V (r12.2.getD [])))] (Option.some.inj h).symm (by simp only [go_sem, Nat.reduceEqDiff, Nat.reduceAdd, Nat.reduceSub, Nat.reduceMul, Nat.reduceLeDiff, Nat.reduceLT, Nat.reduceBEq, reduceIte, sealL_cons, sealL_nil]; exact sealNil) (by simp only [go_sem, Nat.reduceEqDiff, Nat.reduceAdd, Nat.reduceSub, Nat.reduceMul, Nat.reduceLeDiff, Nat.reduceLT, Nat.reduceBEq, reduceIte])
      · rintro ⟨v25_0, v25_1⟩ rfl
        have h := hJ26
        try dsimp only [Out.fin] at h
        simp only [go_sem, Nat.reduceEqDiff, Nat.reduceAdd, Nat.reduceSub, Nat.reduceMul, Nat.reduceLeDiff, Nat.reduceLT, Nat.reduceBEq, reduceIte]
        refine AW.one ?_
        refine AW.one ?_
        refine AW.reg mixed (by kernel_rfl) ?_
        try simp only [go_sem, Nat.reduceEqDiff, Nat.reduceAdd, Nat.reduceSub, Nat.reduceMul, Nat.reduceLeDiff, Nat.reduceLT, Nat.reduceBEq, reduceIte]
        refine AW.cut [0, 1] [(2, .ptr 0 6 0 0), (3, .ptr 1 3 0 0), (6, .d (slD i64V v25_0)), (206, .d (.val (.bool ((p0.kids.length : Int) != (v25_0.length : Int)))))] [some ⟨6, [[.d (.val (.int .i64 p0.op)), .d (.val (.string p0.name)), .d (.val (.bool p0.num.neg)), .d (slD u32V p0.num.num), .d (slD u32V p0.num.den), .d (slD NodeA.enc p0.kids)]]⟩, some ⟨3, [[.d (.val (.bool v25_1.inDiff)), .d (.val (.bool v25_1.inFDiff)), .d (.val (.bool v25_1.inFlow))]]⟩] (by simp only [go_sem, Nat.reduceEqDiff, Nat.reduceAdd, Nat.reduceSub, Nat.reduceMul, Nat.reduceLeDiff, Nat.reduceLT, Nat.reduceBEq, reduceIte]) ?_
        refine AW.test (t := ((p0.kids.length : Int) != (v25_0.length : Int))) (by simp only [go_sem, Nat.reduceEqDiff, Nat.reduceAdd, Nat.reduceSub, Nat.reduceMul, Nat.reduceLeDiff, Nat.reduceLT, Nat.reduceBEq, reduceIte]) (fun hb123 => ?_) (fun hb123 => ?_)
        · have h := ifT hb123 h
          refine AW.one ?_
          refine AW.reg mixed (by kernel_rfl) ?_
          try simp only [go_sem, Nat.reduceEqDiff, Nat.reduceAdd, Nat.reduceSub, Nat.reduceMul, Nat.reduceLeDiff, Nat.reduceLT, Nat.reduceBEq, reduceIte]
          refine AW.ret ?_
          obtain rfl := Option.some.inj h
          simp only [go_sem, Nat.reduceEqDiff, Nat.reduceAdd, Nat.reduceSub, Nat.reduceMul, Nat.reduceLeDiff, Nat.reduceLT, Nat.reduceBEq, reduceIte]
          exact .same _
        · have h := ifF hb123 h
          refine AW.skip ?_
          try simp only [go_sem, Nat.reduceEqDiff, Nat.reduceAdd, Nat.reduceSub, Nat.reduceMul, Nat.reduceLeDiff, Nat.reduceLT, Nat.reduceBEq, reduceIte]
          refine AW.cut [0, 1] [(2, .ptr 0 6 0 0), (3, .ptr 1 3 0 0), (6, .d (slD i64V v25_0))] [some ⟨6, [[.d (.val (.int .i64 p0.op)), .d (.val (.string p0.name)), .d (.val (.bool p0.num.neg)), .d (slD u32V p0.num.num), .d (slD u32V p0.num.den), .d (slD NodeA.enc p0.kids)]]⟩, some ⟨3, [[.d (.val (.bool v25_1.inDiff)), .d (.val (.bool v25_1.inFDiff)), .d (.val (.bool v25_1.inFlow))]]⟩] (by simp only [go_sem, Nat.reduceEqDiff, Nat.reduceAdd, Nat.reduceSub, Nat.reduceMul, Nat.reduceLeDiff, Nat.reduceLT, Nat.reduceBEq, reduceIte]) ?_
          refine AW.one ?_
          refine AW.one ?_
          refine AW.reg mixed (by kernel_rfl) ?_
          try simp only [go_sem, Nat.reduceEqDiff, Nat.reduceAdd, Nat.reduceSub, Nat.reduceMul, Nat.reduceLeDiff, Nat.reduceLT, Nat.reduceBEq, reduceIte]
          refine AW.cut [0, 1] [(2, .ptr 0 6 0 0), (3, .ptr 1 3 0 0), (6, .d (slD i64V v25_0)), (208, .d (slD NodeA.enc p0.kids)), (209, .d (.val (.int .i64 (p0.kids.length : Int)))), (210, .d (.val (.int .i64 (0 : Int))))] [some ⟨6, [[.d (.val (.int .i64 p0.op)), .d (.val (.string p0.name)), .d (.val (.bool p0.num.neg)), .d (slD u32V p0.num.num), .d (slD u32V p0.num.den), .d (slD NodeA.enc p0.kids)]]⟩, some ⟨3, [[.d (.val (.bool v25_1.inDiff)), .d (.val (.bool v25_1.inFDiff)), .d (.val (.bool v25_1.inFlow))]]⟩] (by simp only [go_sem, Nat.reduceEqDiff, Nat.reduceAdd, Nat.reduceSub, Nat.reduceMul, Nat.reduceLeDiff, Nat.reduceLT, Nat.reduceBEq, reduceIte]) ?_
          obtain ⟨oJ127, h, hJ127⟩ := obind h
          refine AW.join (S := Unit) (fun _ => [(2, .ptr 0 6 0 0)]) (fun _ => [some ⟨6, [[.d (.val (.int .i64 p0.op)), .d (.val (.string p0.name)), .d (.val (.bool p0.num.neg)), .d (slD u32V p0.num.num), .d (slD u32V p0.num.den), .d (slD NodeA.enc p0.kids)]]⟩]) (fun x => oJ127 = .go x) ?_ ?_
          · refine AW.block ?_
            refine AW.iter (S := Int) (fun i124_0 => [(2, .ptr 0 6 0 0), (3, .ptr 1 3 0 0), (6, .d (slD i64V v25_0)), (208, .d (slD NodeA.enc p0.kids)), (209, .d (.val (.int .i64 (p0.kids.length : Int)))), (210, .d (.val (.int .i64 i124_0)))]) (fun i124_0 => [some ⟨6, [[.d (.val (.int .i64 p0.op)), .d (.val (.string p0.name)), .d (.val (.bool p0.num.neg)), .d (slD u32V p0.num.num), .d (slD u32V p0.num.den), .d (slD NodeA.enc p0.kids)]]⟩, some ⟨3, [[.d (.val (.bool v25_1.inDiff)), .d (.val (.bool v25_1.inFDiff)), .d (.val (.bool v25_1.inFlow))]]⟩]) [0, 1] h (by simp only [go_sem, Nat.reduceEqDiff, Nat.reduceAdd, Nat.reduceSub, Nat.reduceMul, Nat.reduceLeDiff, Nat.reduceLT, Nat.reduceBEq, reduceIte]) ?_
            rintro again i124_0 h
            try dsimp only at h
            refine AW.one ?_
            refine AW.reg mixed (by kernel_rfl) ?_
            try simp only [go_sem, Nat.reduceEqDiff, Nat.reduceAdd, Nat.reduceSub, Nat.reduceMul, Nat.reduceLeDiff, Nat.reduceLT, Nat.reduceBEq, reduceIte]
            refine AW.cut [0, 1] [(2, .ptr 0 6 0 0), (3, .ptr 1 3 0 0), (6, .d (slD i64V v25_0)), (208, .d (slD NodeA.enc p0.kids)), (209, .d (.val (.int .i64 (p0.kids.length : Int)))), (210, .d (.val (.int .i64 i124_0))), (211, .d (.val (.bool (decide (i124_0 < (p0.kids.length : Int))))))] [some ⟨6, [[.d (.val (.int .i64 p0.op)), .d (.val (.string p0.name)), .d (.val (.bool p0.num.neg)), .d (slD u32V p0.num.num), .d (slD u32V p0.num.den), .d (slD NodeA.enc p0.kids)]]⟩, some ⟨3, [[.d (.val (.bool v25_1.inDiff)), .d (.val (.bool v25_1.inFDiff)), .d (.val (.bool v25_1.inFlow))]]⟩] (by simp only [go_sem, Nat.reduceEqDiff, Nat.reduceAdd, Nat.reduceSub, Nat.reduceMul, Nat.reduceLeDiff, Nat.reduceLT, Nat.reduceBEq, reduceIte]) ?_
            refine AW.one ?_
            refine AW.test (t := (decide (i124_0 < (p0.kids.length : Int)))) (by simp only [go_sem, Nat.reduceEqDiff, Nat.reduceAdd, Nat.reduceSub, Nat.reduceMul, Nat.reduceLeDiff, Nat.reduceLT, Nat.reduceBEq, reduceIte]) (fun hb128 => ?_) (fun hb128 => ?_)
            · have h := ifT hb128 h
              refine AW.skip ?_
              try simp only [go_sem, Nat.reduceEqDiff, Nat.reduceAdd, Nat.reduceSub, Nat.reduceMul, Nat.reduceLeDiff, Nat.reduceLT, Nat.reduceBEq, reduceIte]
              refine AW.cut [0, 1] [(2, .ptr 0 6 0 0), (3, .ptr 1 3 0 0), (6, .d (slD i64V v25_0)), (208, .d (slD NodeA.enc p0.kids)), (209, .d (.val (.int .i64 (p0.kids.length : Int)))), (210, .d (.val (.int .i64 i124_0)))] [some ⟨6, [[.d (.val (.int .i64 p0.op)), .d (.val (.string p0.name)), .d (.val (.bool p0.num.neg)), .d (slD u32V p0.num.num), .d (slD u32V p0.num.den), .d (slD NodeA.enc p0.kids)]]⟩, some ⟨3, [[.d (.val (.bool v25_1.inDiff)), .d (.val (.bool v25_1.inFDiff)), .d (.val (.bool v25_1.inFlow))]]⟩] (by simp only [go_sem, Nat.reduceEqDiff, Nat.reduceAdd, Nat.reduceSub, Nat.reduceMul, Nat.reduceLeDiff, Nat.reduceLT, Nat.reduceBEq, reduceIte]) ?_
              refine AW.one ?_
              obtain ⟨oJ130, h, hJ130⟩ := obind h
              refine AW.join (S := Unit) (fun _ => [(2, .ptr 0 6 0 0), (3, .ptr 1 3 0 0), (6, .d (slD i64V v25_0)), (208, .d (slD NodeA.enc p0.kids)), (209, .d (.val (.int .i64 (p0.kids.length : Int)))), (210, .d (.val (.int .i64 i124_0)))]) (fun _ => [some ⟨6, [[.d (.val (.int .i64 p0.op)), .d (.val (.string p0.name)), .d (.val (.bool p0.num.neg)), .d (slD u32V p0.num.num), .d (slD u32V p0.num.den), .d (slD NodeA.enc p0.kids)]]⟩, some ⟨3, [[.d (.val (.bool v25_1.inDiff)), .d (.val (.bool v25_1.inFDiff)), .d (.val (.bool v25_1.inFlow))]]⟩]) (fun x => oJ130 = .go x) ?_ ?_
              · skip
                refine AW.block ?_
                refine AW.one ?_
                refine AW.reg mixed (by kernel_rfl) ?_
                obtain ⟨x131, hx132, h⟩ := obind h
                try simp only [go_sem, Nat.reduceEqDiff, Nat.reduceAdd, Nat.reduceSub, Nat.reduceMul, Nat.reduceLeDiff, Nat.reduceLT, Nat.reduceBEq, reduceIte, (idx_some hx132).1, (idx_some hx132).2]
                refine AW.cut [0, 1, 5] [(2, .ptr 0 6 0 0), (3, .ptr 1 3 0 0), (6, .d (slD i64V v25_0)), (12, .d (.val (.int .i64 i124_0))), (13, .ptr 2 6 0 0), (208, .d (slD NodeA.enc p0.kids)), (209, .d (.val (.int .i64 (p0.kids.length : Int)))), (210, .d (.val (.int .i64 i124_0)))] [some ⟨6, [[.d (.val (.int .i64 p0.op)), .d (.val (.string p0.name)), .d (.val (.bool p0.num.neg)), .d (slD u32V p0.num.num), .d (slD u32V p0.num.den), .d (slD NodeA.enc p0.kids)]]⟩, some ⟨3, [[.d (.val (.bool v25_1.inDiff)), .d (.val (.bool v25_1.inFDiff)), .d (.val (.bool v25_1.inFlow))]]⟩, some ⟨6, [[.d (.val (.int .i64 x131.op)), .d (.val (.string x131.name)), .d (.val (.bool x131.num.neg)), .d (slD u32V x131.num.num), .d (slD u32V x131.num.den), .d (slD NodeA.enc x131.kids)]]⟩] (by simp only [go_sem, Nat.reduceEqDiff, Nat.reduceAdd, Nat.reduceSub, Nat.reduceMul, Nat.reduceLeDiff, Nat.reduceLT, Nat.reduceBEq, reduceIte, (idx_some hx132).1, (idx_some hx132).2]) ?_
                refine AW.one ?_
                obtain ⟨oJ134, h, hJ134⟩ := obind h
                refine AW.join (S := Bool) (fun v133_0 => [(2, .ptr 0 6 0 0), (3, .ptr 1 3 0 0), (6, .d (slD i64V v25_0)), (208, .d (slD NodeA.enc p0.kids)), (209, .d (.val (.int .i64 (p0.kids.length : Int)))), (210, .d (.val (.int .i64 i124_0))), (228, .d (.val (.bool v133_0)))]) (fun v133_0 => [some ⟨6, [[.d (.val (.int .i64 p0.op)), .d (.val (.string p0.name)), .d (.val (.bool p0.num.neg)), .d (slD u32V p0.num.num), .d (slD u32V p0.num.den), .d (slD NodeA.enc p0.kids)]]⟩, some ⟨3, [[.d (.val (.bool v25_1.inDiff)), .d (.val (.bool v25_1.inFDiff)), .d (.val (.bool v25_1.inFlow))]]⟩]) (fun x => x = oJ134) ?_ ?_
                · skip
                  refine AW.reg mixed (by kernel_rfl) ?_
                  try simp only [go_sem, Nat.reduceEqDiff, Nat.reduceAdd, Nat.reduceSub, Nat.reduceMul, Nat.reduceLeDiff, Nat.reduceLT, Nat.reduceBEq, reduceIte]
                  obtain ⟨r135, hx136, h⟩ := obind h
                  have hc := tree_Sort_ok (h := hx136)
                  try simp only [NodeA.enc_eta, RatA.enc_eta, aggV, i64V, u32V, strV, List.map_cons, List.map_nil] at hc
                  refine pcallK_intro hc (by simp only [go_sem, Nat.reduceEqDiff, Nat.reduceAdd, Nat.reduceSub, Nat.reduceMul, Nat.reduceLeDiff, Nat.reduceLT, Nat.reduceBEq, reduceIte]) ?_
                  obtain ⟨x137, hx138, h⟩ := obind h
                  try simp only [go_sem, Nat.reduceEqDiff, Nat.reduceAdd, Nat.reduceSub, Nat.reduceMul, Nat.reduceLeDiff, Nat.reduceLT, Nat.reduceBEq, reduceIte, (idx_some hx138).1, (idx_some hx138).2]
                  refine splitK_intro (fun hb139 => ?_) (fun hb139 => ?_)
                  · have h := ifT hb139 h
                    try simp only [go_sem, Nat.reduceEqDiff, Nat.reduceAdd, Nat.reduceSub, Nat.reduceMul, Nat.reduceLeDiff, Nat.reduceLT, Nat.reduceBEq, reduceIte, (idx_some hx138).1, (idx_some hx138).2, hb139]
                    refine JoinQ.mk true [0, 1] (Option.some.inj h) (by simp only [go_sem, Nat.reduceEqDiff, Nat.reduceAdd, Nat.reduceSub, Nat.reduceMul, Nat.reduceLeDiff, Nat.reduceLT, Nat.reduceBEq, reduceIte, (idx_some hx138).1, (idx_some hx138).2, hb139])
                  · have h := ifF hb139 h
                    try simp only [go_sem, Nat.reduceEqDiff, Nat.reduceAdd, Nat.reduceSub, Nat.reduceMul, Nat.reduceLeDiff, Nat.reduceLT, Nat.reduceBEq, reduceIte, (idx_some hx138).1, (idx_some hx138).2, hb139]
                    obtain ⟨r140, hx141, h⟩ := obind h
                    have hc := hself74 _ _ hx141
                    try simp only [NodeA.enc_eta, RatA.enc_eta, aggV, i64V, u32V, strV, List.map_cons, List.map_nil] at hc
                    refine pcallK_intro hc (by simp only [go_sem, Nat.reduceEqDiff, Nat.reduceAdd, Nat.reduceSub, Nat.reduceMul, Nat.reduceLeDiff, Nat.reduceLT, Nat.reduceBEq, reduceIte]) ?_
                    try simp only [go_sem, Nat.reduceEqDiff, Nat.reduceAdd, Nat.reduceSub, Nat.reduceMul, Nat.reduceLeDiff, Nat.reduceLT, Nat.reduceBEq, reduceIte, (idx_some hx138).1, (idx_some hx138).2, hb139]
                    refine JoinQ.mk (!r140) [0, 1] (Option.some.inj h) (by simp only [go_sem, Nat.reduceEqDiff, Nat.reduceAdd, Nat.reduceSub, Nat.reduceMul, Nat.reduceLeDiff, Nat.reduceLT, Nat.reduceBEq, reduceIte, (idx_some hx138).1, (idx_some hx138).2, hb139])
                · rintro v133_0 rfl
                  have h := hJ134
                  try dsimp only [Out.fin] at h
                  simp only [go_sem, Nat.reduceEqDiff, Nat.reduceAdd, Nat.reduceSub, Nat.reduceMul, Nat.reduceLeDiff, Nat.reduceLT, Nat.reduceBEq, reduceIte]
                  refine AW.test (t := v133_0) (by simp only [go_sem, Nat.reduceEqDiff, Nat.reduceAdd, Nat.reduceSub, Nat.reduceMul, Nat.reduceLeDiff, Nat.reduceLT, Nat.reduceBEq, reduceIte]) (fun hb142 => ?_) (fun hb142 => ?_)
                  · have h := ifT hb142 h
                    refine AW.one ?_
                    refine AW.reg mixed (by kernel_rfl) ?_
                    try simp only [go_sem, Nat.reduceEqDiff, Nat.reduceAdd, Nat.reduceSub, Nat.reduceMul, Nat.reduceLeDiff, Nat.reduceLT, Nat.reduceBEq, reduceIte]
                    refine AW.ret ?_
                    obtain ⟨_, h, ho⟩ := outM_some h
                    rw [ho, Out.fin_out] at hJ130
                    have h := h.trans hJ130
                    obtain ⟨_, h, ho⟩ := outM_some h
                    rw [ho, Out.fin_out] at hJ127
                    have h := h.trans hJ127
                    obtain rfl := Option.some.inj h
                    simp only [go_sem, Nat.reduceEqDiff, Nat.reduceAdd, Nat.reduceSub, Nat.reduceMul, Nat.reduceLeDiff, Nat.reduceLT, Nat.reduceBEq, reduceIte]
                    exact .same _
                  · have h := ifF hb142 h
                    refine AW.skip ?_
                    try simp only [go_sem, Nat.reduceEqDiff, Nat.reduceAdd, Nat.reduceSub, Nat.reduceMul, Nat.reduceLeDiff, Nat.reduceLT, Nat.reduceBEq, reduceIte]
                    refine JoinQ.mk () [0, 1] (Option.some.inj h).symm (by simp only [go_sem, Nat.reduceEqDiff, Nat.reduceAdd, Nat.reduceSub, Nat.reduceMul, Nat.reduceLeDiff, Nat.reduceLT, Nat.reduceBEq, reduceIte])
              · rintro ⟨⟩ rfl
                have h := hJ130
                try dsimp only [Out.fin] at h
                simp only [go_sem, Nat.reduceEqDiff, Nat.reduceAdd, Nat.reduceSub, Nat.reduceMul, Nat.reduceLeDiff, Nat.reduceLT, Nat.reduceBEq, reduceIte]
                refine AW.reg mixed (by kernel_rfl) ?_
                try simp only [go_sem, Nat.reduceEqDiff, Nat.reduceAdd, Nat.reduceSub, Nat.reduceMul, Nat.reduceLeDiff, Nat.reduceLT, Nat.reduceBEq, reduceIte]
                refine NextQ.mk (IntKind.wrap .i64 (i124_0 + (1 : Int))) [0, 1] h (by simp only [go_sem, Nat.reduceEqDiff, Nat.reduceAdd, Nat.reduceSub, Nat.reduceMul, Nat.reduceLeDiff, Nat.reduceLT, Nat.reduceBEq, reduceIte])
            · have h := ifF hb128 h
              refine AW.exit ?_
              try simp only [go_sem, Nat.reduceEqDiff, Nat.reduceAdd, Nat.reduceSub, Nat.reduceMul, Nat.reduceLeDiff, Nat.reduceLT, Nat.reduceBEq, reduceIte]
              refine JoinQ.mk () [0] (Option.some.inj h).symm (by simp only [go_sem, Nat.reduceEqDiff, Nat.reduceAdd, Nat.reduceSub, Nat.reduceMul, Nat.reduceLeDiff, Nat.reduceLT, Nat.reduceBEq, reduceIte])
          · rintro ⟨⟩ rfl
            have h := hJ127
            try dsimp only [Out.fin] at h
            simp only [go_sem, Nat.reduceEqDiff, Nat.reduceAdd, Nat.reduceSub, Nat.reduceMul, Nat.reduceLeDiff, Nat.reduceLT, Nat.reduceBEq, reduceIte]
            refine AW.cut [0] [(2, .ptr 0 6 0 0)] [some ⟨6, [[.d (.val (.int .i64 p0.op)), .d (.val (.string p0.name)), .d (.val (.bool p0.num.neg)), .d (slD u32V p0.num.num), .d (slD u32V p0.num.den), .d (slD NodeA.enc p0.kids)]]⟩] (by simp only [go_sem, Nat.reduceEqDiff, Nat.reduceAdd, Nat.reduceSub, Nat.reduceMul, Nat.reduceLeDiff, Nat.reduceLT, Nat.reduceBEq, reduceIte]) ?_
            refine AW.one ?_
            refine AW.one ?_
            refine AW.reg mixed (by kernel_rfl) ?_
            try simp only [go_sem, Nat.reduceEqDiff, Nat.reduceAdd, Nat.reduceSub, Nat.reduceMul, Nat.reduceLeDiff, Nat.reduceLT, Nat.reduceBEq, reduceIte]
            refine AW.cut [0] [(2, .ptr 0 6 0 0), (232, .d (.val (.bool (p0.op == (8 : Int)))))] [some ⟨6, [[.d (.val (.int .i64 p0.op)), .d (.val (.string p0.name)), .d (.val (.bool p0.num.neg)), .d (slD u32V p0.num.num), .d (slD u32V p0.num.den), .d (slD NodeA.enc p0.kids)]]⟩] (by simp only [go_sem, Nat.reduceEqDiff, Nat.reduceAdd, Nat.reduceSub, Nat.reduceMul, Nat.reduceLeDiff, Nat.reduceLT, Nat.reduceBEq, reduceIte]) ?_
            refine AW.test (t := (p0.op == (8 : Int))) (by simp only [go_sem, Nat.reduceEqDiff, Nat.reduceAdd, Nat.reduceSub, Nat.reduceMul, Nat.reduceLeDiff, Nat.reduceLT, Nat.reduceBEq, reduceIte]) (fun hb143 => ?_) (fun hb143 => ?_)
            · have h := ifT hb143 h
              refine AW.one ?_
              refine AW.reg mixed (by kernel_rfl) ?_
              obtain ⟨x144, hx145, h⟩ := obind h
              try simp only [go_sem, Nat.reduceEqDiff, Nat.reduceAdd, Nat.reduceSub, Nat.reduceMul, Nat.reduceLeDiff, Nat.reduceLT, Nat.reduceBEq, reduceIte, (idx_some hx145).1, (idx_some hx145).2]
              refine splitK_intro (fun hb146 => ?_) (fun hb146 => ?_)
              · have h := ifT hb146 h
                try simp only [go_sem, Nat.reduceEqDiff, Nat.reduceAdd, Nat.reduceSub, Nat.reduceMul, Nat.reduceLeDiff, Nat.reduceLT, Nat.reduceBEq, reduceIte, (idx_some hx145).1, (idx_some hx145).2, hb146]
                refine AW.ret ?_
                obtain rfl := Option.some.inj h
                simp only [go_sem, Nat.reduceEqDiff, Nat.reduceAdd, Nat.reduceSub, Nat.reduceMul, Nat.reduceLeDiff, Nat.reduceLT, Nat.reduceBEq, reduceIte]
                exact .same _
              · have h := ifF hb146 h
                try simp only [go_sem, Nat.reduceEqDiff, Nat.reduceAdd, Nat.reduceSub, Nat.reduceMul, Nat.reduceLeDiff, Nat.reduceLT, Nat.reduceBEq, reduceIte, (idx_some hx145).1, (idx_some hx145).2, hb146]
                refine AW.ret ?_
                obtain rfl := Option.some.inj h
                simp only [go_sem, Nat.reduceEqDiff, Nat.reduceAdd, Nat.reduceSub, Nat.reduceMul, Nat.reduceLeDiff, Nat.reduceLT, Nat.reduceBEq, reduceIte]
                exact .same _
            · have h := ifF hb143 h
              refine AW.skip ?_
              try simp only [go_sem, Nat.reduceEqDiff, Nat.reduceAdd, Nat.reduceSub, Nat.reduceMul, Nat.reduceLeDiff, Nat.reduceLT, Nat.reduceBEq, reduceIte]
              refine AW.cut [0] [(2, .ptr 0 6 0 0)] [some ⟨6, [[.d (.val (.int .i64 p0.op)), .d (.val (.string p0.name)), .d (.val (.bool p0.num.neg)), .d (slD u32V p0.num.num), .d (slD u32V p0.num.den), .d (slD NodeA.enc p0.kids)]]⟩] (by simp only [go_sem, Nat.reduceEqDiff, Nat.reduceAdd, Nat.reduceSub, Nat.reduceMul, Nat.reduceLeDiff, Nat.reduceLT, Nat.reduceBEq, reduceIte]) ?_
              refine AW.one ?_
              refine AW.one ?_
              refine AW.reg mixed (by kernel_rfl) ?_
              try simp only [go_sem, Nat.reduceEqDiff, Nat.reduceAdd, Nat.reduceSub, Nat.reduceMul, Nat.reduceLeDiff, Nat.reduceLT, Nat.reduceBEq, reduceIte]
              refine AW.cut [0] [(2, .ptr 0 6 0 0), (251, .d (.val (.bool (p0.op == (9 : Int)))))] [some ⟨6, [[.d (.val (.int .i64 p0.op)), .d (.val (.string p0.name)), .d (.val (.bool p0.num.neg)), .d (slD u32V p0.num.num), .d (slD u32V p0.num.den), .d (slD NodeA.enc p0.kids)]]⟩] (by simp only [go_sem, Nat.reduceEqDiff, Nat.reduceAdd, Nat.reduceSub, Nat.reduceMul, Nat.reduceLeDiff, Nat.reduceLT, Nat.reduceBEq, reduceIte]) ?_
              refine AW.test (t := (p0.op == (9 : Int))) (by simp only [go_sem, Nat.reduceEqDiff, Nat.reduceAdd, Nat.reduceSub, Nat.reduceMul, Nat.reduceLeDiff, Nat.reduceLT, Nat.reduceBEq, reduceIte]) (fun hb147 => ?_) (fun hb147 => ?_)
              · have h := ifT hb147 h
                refine AW.one ?_
                refine AW.reg mixed (by kernel_rfl) ?_
                obtain ⟨x148, hx149, h⟩ := obind h
                try simp only [go_sem, Nat.reduceEqDiff, Nat.reduceAdd, Nat.reduceSub, Nat.reduceMul, Nat.reduceLeDiff, Nat.reduceLT, Nat.reduceBEq, reduceIte, (idx_some hx149).1, (idx_some hx149).2]
                refine AW.cut [5] [(14, .ptr 0 6 0 0)] [some ⟨6, [[.d (.val (.int .i64 x148.op)), .d (.val (.string x148.name)), .d (.val (.bool x148.num.neg)), .d (slD u32V x148.num.num), .d (slD u32V x148.num.den), .d (slD NodeA.enc x148.kids)]]⟩] (by simp only [go_sem, Nat.reduceEqDiff, Nat.reduceAdd, Nat.reduceSub, Nat.reduceMul, Nat.reduceLeDiff, Nat.reduceLT, Nat.reduceBEq, reduceIte, (idx_some hx149).1, (idx_some hx149).2]) ?_
                refine AW.one ?_
                refine AW.reg mixed (by kernel_rfl) ?_
                try simp only [go_sem, Nat.reduceEqDiff, Nat.reduceAdd, Nat.reduceSub, Nat.reduceMul, Nat.reduceLeDiff, Nat.reduceLT, Nat.reduceBEq, reduceIte]
                refine splitK_intro (fun hb150 => ?_) (fun hb150 => ?_)
                · have h := ifT hb150 h
                  try simp only [go_sem, Nat.reduceEqDiff, Nat.reduceAdd, Nat.reduceSub, Nat.reduceMul, Nat.reduceLeDiff, Nat.reduceLT, Nat.reduceBEq, reduceIte, hb150]
                  refine splitK_intro (fun hb151 => ?_) (fun hb151 => ?_)
                  · have h := ifT hb151 h
                    try simp only [go_sem, Nat.reduceEqDiff, Nat.reduceAdd, Nat.reduceSub, Nat.reduceMul, Nat.reduceLeDiff, Nat.reduceLT, Nat.reduceBEq, reduceIte, hb150, hb151]
                    refine AW.ret ?_
                    obtain rfl := Option.some.inj h
                    simp only [go_sem, Nat.reduceEqDiff, Nat.reduceAdd, Nat.reduceSub, Nat.reduceMul, Nat.reduceLeDiff, Nat.reduceLT, Nat.reduceBEq, reduceIte]
                    exact .same _
                  · have h := ifF hb151 h
                    try simp only [go_sem, Nat.reduceEqDiff, Nat.reduceAdd, Nat.reduceSub, Nat.reduceMul, Nat.reduceLeDiff, Nat.reduceLT, Nat.reduceBEq, reduceIte, hb150, hb151]
                    refine splitK_intro (fun hb152 => ?_) (fun hb152 => ?_)
                    · have h := ifT hb152 h
                      obtain ⟨x153, hx154, h⟩ := obind h
                      try simp only [go_sem, Nat.reduceEqDiff, Nat.reduceAdd, Nat.reduceSub, Nat.reduceMul, Nat.reduceLeDiff, Nat.reduceLT, Nat.reduceBEq, reduceIte, hb150, hb151, hb152, (idx_some hx154).1, (idx_some hx154).2]
                      refine AW.ret ?_
                      obtain rfl := Option.some.inj h
                      simp only [go_sem, Nat.reduceEqDiff, Nat.reduceAdd, Nat.reduceSub, Nat.reduceMul, Nat.reduceLeDiff, Nat.reduceLT, Nat.reduceBEq, reduceIte]
                      exact .same _
                    · have h := ifF hb152 h
                      try simp only [go_sem, Nat.reduceEqDiff, Nat.reduceAdd, Nat.reduceSub, Nat.reduceMul, Nat.reduceLeDiff, Nat.reduceLT, Nat.reduceBEq, reduceIte, hb150, hb151, hb152]
                      refine AW.ret ?_
                      obtain rfl := Option.some.inj h
                      simp only [go_sem, Nat.reduceEqDiff, Nat.reduceAdd, Nat.reduceSub, Nat.reduceMul, Nat.reduceLeDiff, Nat.reduceLT, Nat.reduceBEq, reduceIte]
                      exact .same _
                · have h := ifF hb150 h
                  try simp only [go_sem, Nat.reduceEqDiff, Nat.reduceAdd, Nat.reduceSub, Nat.reduceMul, Nat.reduceLeDiff, Nat.reduceLT, Nat.reduceBEq, reduceIte, hb150]
                  refine AW.ret ?_
                  obtain rfl := Option.some.inj h
                  simp only [go_sem, Nat.reduceEqDiff, Nat.reduceAdd, Nat.reduceSub, Nat.reduceMul, Nat.reduceLeDiff, Nat.reduceLT, Nat.reduceBEq, reduceIte]
                  exact .same _
              · have h := ifF hb147 h
                refine AW.skip ?_
                try simp only [go_sem, Nat.reduceEqDiff, Nat.reduceAdd, Nat.reduceSub, Nat.reduceMul, Nat.reduceLeDiff, Nat.reduceLT, Nat.reduceBEq, reduceIte]
                refine AW.cut [] [] [] (by simp only [go_sem, Nat.reduceEqDiff, Nat.reduceAdd, Nat.reduceSub, Nat.reduceMul, Nat.reduceLeDiff, Nat.reduceLT, Nat.reduceBEq, reduceIte]) ?_
                refine AW.one ?_
                refine AW.reg mixed (by kernel_rfl) ?_
                try simp only [go_sem, Nat.reduceEqDiff, Nat.reduceAdd, Nat.reduceSub, Nat.reduceMul, Nat.reduceLeDiff, Nat.reduceLT, Nat.reduceBEq, reduceIte]
                refine AW.ret ?_
                obtain rfl := Option.some.inj h
                simp only [go_sem, Nat.reduceEqDiff, Nat.reduceAdd, Nat.reduceSub, Nat.reduceMul, Nat.reduceLeDiff, Nat.reduceLT, Nat.reduceBEq, reduceIte]
                exact .same _
def tree_formed (K : Nat) (p0 : NodeA) (p1 : Tree_placeA) : Option Bool := iter K (fun self q => tree_formed_body K self q.1 q.2) (p0, p1)
theorem key_tree_formed {K : Nat} (k : Nat) : (∀ (q : NodeA × Tree_placeA) (r : Bool), iter k (fun self q => tree_formed_body K self q.1 q.2) q = some r → Cn Try.prog 74 [aggV q.1.enc, aggV q.2.enc] (.d (.val (.bool r)))) := by
  induction k with
  | zero => exact fun q r h => by cases h
  | succ k ih => exact fun q r h => tree_formed_step K _ ih q.1 q.2 r h
theorem tree_formed_ok {K : Nat} {p0 : NodeA} {p1 : Tree_placeA} {r : Bool} (h : tree_formed K p0 p1 = some r) : Cn Try.prog 74 [aggV p0.enc, aggV p1.enc] (.d (.val (.bool r))) := (key_tree_formed K) (p0, p1) r h

end Go.Proofs.Ytcgphoghmgeecaa
namespace Go.Proofs.Ytcgphoghmgeecaa
open Go Go.Iso Go.Proofs
set_option linter.unusedSimpArgs false
set_option linter.unusedVariables false
set_option maxRecDepth 100000

/-! ### isochrone/tree.within -/
def tree_within_body (K : Nat) (self73 : (NodeA × Int × Int) → Option (Bool × Int)) (p0 : NodeA) (p1 : Int) (p2 : Int) : Option (Bool × Int) := ((
    ((
      if (decide ((IntKind.wrap .i64 (p1 - (1 : Int))) < (0 : Int))) then
        some true
      else
        some (decide (p2 ≤ (0 : Int)))) : Option Bool).bind (fun v3_0 => 
    if v3_0 then
      outM (
        some (false, IntKind.wrap .i64 (p1 - (1 : Int))))
    else
      some (.go ()))) : Option (Out Unit _)).bind (Out.fin fun _ => 
  ((iter (S := Int × Int) (R := Out Int _) K (fun again (i7_0, i7_1) => 
    if (decide (i7_0 < (p0.kids.length : Int))) then
      (idx p0.kids i7_0).bind fun x12 => 
      (self73 (x12, i7_1, IntKind.wrap .i64 (p2 - (1 : Int)))).bind fun r14 => 
      if (!r14.1) then
        outM (
          some (false, r14.2))
      else
        again (IntKind.wrap .i64 (i7_0 + (1 : Int)), r14.2)
    else
      some (.go i7_1)) ((0 : Int), IntKind.wrap .i64 (p1 - (1 : Int)))) : Option (Out Int _)).bind (Out.fin fun e8_0 => 
  some (true, e8_0)))
set_option maxHeartbeats 4000000 in
theorem tree_within_step (K : Nat) (self73 : (NodeA × Int × Int) → Option (Bool × Int)) (hself73 : ∀ (q : NodeA × Int × Int) (r : Bool × Int), self73 q = some r → Cl Try.prog 73 [aggV q.1.enc, .ptr 0 1 0 0, .d (.val (.int .i64 q.2.2))] [⟨1, [[.d (.val (.int .i64 q.2.1))]]⟩] (.d (.val (.bool r.1))) [⟨1, [[.d (.val (.int .i64 r.2))]]⟩]) (p0 : NodeA) (p1 : Int) (p2 : Int) (r : Bool × Int) (h : tree_within_body K self73 p0 p1 p2 = some r) : Cl Try.prog 73 [aggV p0.enc, .ptr 0 1 0 0, .d (.val (.int .i64 p2))] [⟨1, [[.d (.val (.int .i64 p1))]]⟩] (.d (.val (.bool r.1))) [⟨1, [[.d (.val (.int .i64 r.2))]]⟩] := by
  refine Cl.ofA mixed Try.func73 rfl Try.call73 Try.ntmps73 Try.results73 (by simp) rfl (by simp only [go_sem, Nat.reduceEqDiff, Nat.reduceAdd, Nat.reduceSub, Nat.reduceMul, Nat.reduceLeDiff, Nat.reduceLT, Nat.reduceBEq, reduceIte, List.length_cons]) (by simp only [go_sem, Nat.reduceEqDiff, Nat.reduceAdd, Nat.reduceSub, Nat.reduceMul, Nat.reduceLeDiff, Nat.reduceLT, Nat.reduceBEq, reduceIte]) (by simp only [go_sem, Nat.reduceEqDiff, Nat.reduceAdd, Nat.reduceSub, Nat.reduceMul, Nat.reduceLeDiff, Nat.reduceLT, Nat.reduceBEq, reduceIte]) (by simp only [go_sem, Nat.reduceEqDiff, Nat.reduceAdd, Nat.reduceSub, Nat.reduceMul, Nat.reduceLeDiff, Nat.reduceLT, Nat.reduceBEq, reduceIte]) fun hfit => ?_
  unfold tree_within_body at h
  refine AW.cut [0] [(0, .agg [.d (.val (.int .i64 p0.op)), .d (.val (.string p0.name)), .d (.val (.bool p0.num.neg)), .d (slD u32V p0.num.num), .d (slD u32V p0.num.den), .d (slD NodeA.enc p0.kids)]), (1, .ptr 0 1 0 0), (2, .d (.val (.int .i64 p2)))] [some ⟨1, [[.d (.val (.int .i64 p1))]]⟩] (by simp only [go_sem, Nat.reduceEqDiff, Nat.reduceAdd, Nat.reduceSub, Nat.reduceMul, Nat.reduceLeDiff, Nat.reduceLT, Nat.reduceBEq, reduceIte]) ?_
  refine AW.one ?_
  refine AW.reg mixed (by kernel_rfl) ?_
  try simp only [go_sem, Nat.reduceEqDiff, Nat.reduceAdd, Nat.reduceSub, Nat.reduceMul, Nat.reduceLeDiff, Nat.reduceLT, Nat.reduceBEq, reduceIte]
  refine AW.cut [0, 1] [(1, .ptr 0 1 0 0), (2, .d (.val (.int .i64 p2))), (3, .ptr 1 6 0 0)] [some ⟨1, [[.d (.val (.int .i64 p1))]]⟩, some ⟨6, [[.d (.val (.int .i64 p0.op)), .d (.val (.string p0.name)), .d (.val (.bool p0.num.neg)), .d (slD u32V p0.num.num), .d (slD u32V p0.num.den), .d (slD NodeA.enc p0.kids)]]⟩] (by simp only [go_sem, Nat.reduceEqDiff, Nat.reduceAdd, Nat.reduceSub, Nat.reduceMul, Nat.reduceLeDiff, Nat.reduceLT, Nat.reduceBEq, reduceIte]) ?_
  refine AW.one ?_
  refine AW.reg mixed (by kernel_rfl) ?_
  try simp only [go_sem, Nat.reduceEqDiff, Nat.reduceAdd, Nat.reduceSub, Nat.reduceMul, Nat.reduceLeDiff, Nat.reduceLT, Nat.reduceBEq, reduceIte]
  refine AW.cut [0, 1] [(1, .ptr 0 1 0 0), (2, .d (.val (.int .i64 p2))), (3, .ptr 1 6 0 0)] [some ⟨1, [[.d (.val (.int .i64 (IntKind.wrap .i64 (p1 - (1 : Int)))))]]⟩, some ⟨6, [[.d (.val (.int .i64 p0.op)), .d (.val (.string p0.name)), .d (.val (.bool p0.num.neg)), .d (slD u32V p0.num.num), .d (slD u32V p0.num.den), .d (slD NodeA.enc p0.kids)]]⟩] (by simp only [go_sem, Nat.reduceEqDiff, Nat.reduceAdd, Nat.reduceSub, Nat.reduceMul, Nat.reduceLeDiff, Nat.reduceLT, Nat.reduceBEq, reduceIte]) ?_
  refine AW.one ?_
  obtain ⟨oJ2, h, hJ2⟩ := obind h
  refine AW.join (S := Unit) (fun _ => [(1, .ptr 0 1 0 0), (2, .d (.val (.int .i64 p2))), (3, .ptr 1 6 0 0)]) (fun _ => [some ⟨1, [[.d (.val (.int .i64 (IntKind.wrap .i64 (p1 - (1 : Int)))))]]⟩, some ⟨6, [[.d (.val (.int .i64 p0.op)), .d (.val (.string p0.name)), .d (.val (.bool p0.num.neg)), .d (slD u32V p0.num.num), .d (slD u32V p0.num.den), .d (slD NodeA.enc p0.kids)]]⟩]) (fun x => oJ2 = .go x) ?_ ?_
  · skip
    refine AW.one ?_
    obtain ⟨oJ4, h, hJ4⟩ := obind h
    refine AW.join (S := Bool) (fun v3_0 => [(1, .ptr 0 1 0 0), (2, .d (.val (.int .i64 p2))), (3, .ptr 1 6 0 0), (21, .d (.val (.bool v3_0)))]) (fun v3_0 => [some ⟨1, [[.d (.val (.int .i64 (IntKind.wrap .i64 (p1 - (1 : Int)))))]]⟩, some ⟨6, [[.d (.val (.int .i64 p0.op)), .d (.val (.string p0.name)), .d (.val (.bool p0.num.neg)), .d (slD u32V p0.num.num), .d (slD u32V p0.num.den), .d (slD NodeA.enc p0.kids)]]⟩]) (fun x => x = oJ4) ?_ ?_
    · skip
      refine AW.reg mixed (by kernel_rfl) ?_
      try simp only [go_sem, Nat.reduceEqDiff, Nat.reduceAdd, Nat.reduceSub, Nat.reduceMul, Nat.reduceLeDiff, Nat.reduceLT, Nat.reduceBEq, reduceIte]
      refine splitK_intro (fun hb5 => ?_) (fun hb5 => ?_)
      · have h := ifT hb5 h
        try simp only [go_sem, Nat.reduceEqDiff, Nat.reduceAdd, Nat.reduceSub, Nat.reduceMul, Nat.reduceLeDiff, Nat.reduceLT, Nat.reduceBEq, reduceIte, hb5]
        refine JoinQ.mk true [0, 1] (Option.some.inj h) (by simp only [go_sem, Nat.reduceEqDiff, Nat.reduceAdd, Nat.reduceSub, Nat.reduceMul, Nat.reduceLeDiff, Nat.reduceLT, Nat.reduceBEq, reduceIte, hb5])
      · have h := ifF hb5 h
        try simp only [go_sem, Nat.reduceEqDiff, Nat.reduceAdd, Nat.reduceSub, Nat.reduceMul, Nat.reduceLeDiff, Nat.reduceLT, Nat.reduceBEq, reduceIte, hb5]
        refine JoinQ.mk (decide (p2 ≤ (0 : Int))) [0, 1] (Option.some.inj h) (by simp only [go_sem, Nat.reduceEqDiff, Nat.reduceAdd, Nat.reduceSub, Nat.reduceMul, Nat.reduceLeDiff, Nat.reduceLT, Nat.reduceBEq, reduceIte, hb5])
    · rintro v3_0 rfl
      have h := hJ4
      try dsimp only [Out.fin] at h
      simp only [go_sem, Nat.reduceEqDiff, Nat.reduceAdd, Nat.reduceSub, Nat.reduceMul, Nat.reduceLeDiff, Nat.reduceLT, Nat.reduceBEq, reduceIte]
      refine AW.test (t := v3_0) (by simp only [go_sem, Nat.reduceEqDiff, Nat.reduceAdd, Nat.reduceSub, Nat.reduceMul, Nat.reduceLeDiff, Nat.reduceLT, Nat.reduceBEq, reduceIte]) (fun hb6 => ?_) (fun hb6 => ?_)
      · have h := ifT hb6 h
        refine AW.one ?_
        refine AW.reg mixed (by kernel_rfl) ?_
        try simp only [go_sem, Nat.reduceEqDiff, Nat.reduceAdd, Nat.reduceSub, Nat.reduceMul, Nat.reduceLeDiff, Nat.reduceLT, Nat.reduceBEq, reduceIte]
        refine AW.ret ?_
        obtain ⟨_, h, ho⟩ := outM_some h
        rw [ho, Out.fin_out] at hJ2
        have h := h.trans hJ2
        obtain rfl := Option.some.inj h
        simp only [go_sem, Nat.reduceEqDiff, Nat.reduceAdd, Nat.reduceSub, Nat.reduceMul, Nat.reduceLeDiff, Nat.reduceLT, Nat.reduceBEq, reduceIte]
        exact ⟨.same _, ⟨⟨.same _, trivial⟩, trivial⟩⟩
      · have h := ifF hb6 h
        refine AW.skip ?_
        try simp only [go_sem, Nat.reduceEqDiff, Nat.reduceAdd, Nat.reduceSub, Nat.reduceMul, Nat.reduceLeDiff, Nat.reduceLT, Nat.reduceBEq, reduceIte]
        refine JoinQ.mk () [0, 1] (Option.some.inj h).symm (by simp only [go_sem, Nat.reduceEqDiff, Nat.reduceAdd, Nat.reduceSub, Nat.reduceMul, Nat.reduceLeDiff, Nat.reduceLT, Nat.reduceBEq, reduceIte])
  · rintro ⟨⟩ rfl
    have h := hJ2
    try dsimp only [Out.fin] at h
    simp only [go_sem, Nat.reduceEqDiff, Nat.reduceAdd, Nat.reduceSub, Nat.reduceMul, Nat.reduceLeDiff, Nat.reduceLT, Nat.reduceBEq, reduceIte]
    refine AW.one ?_
    refine AW.one ?_
    refine AW.reg mixed (by kernel_rfl) ?_
    try simp only [go_sem, Nat.reduceEqDiff, Nat.reduceAdd, Nat.reduceSub, Nat.reduceMul, Nat.reduceLeDiff, Nat.reduceLT, Nat.reduceBEq, reduceIte]
    refine AW.cut [0] [(1, .ptr 0 1 0 0), (2, .d (.val (.int .i64 p2))), (23, .d (slD NodeA.enc p0.kids)), (24, .d (.val (.int .i64 (p0.kids.length : Int)))), (25, .d (.val (.int .i64 (0 : Int))))] [some ⟨1, [[.d (.val (.int .i64 (IntKind.wrap .i64 (p1 - (1 : Int)))))]]⟩] (by simp only [go_sem, Nat.reduceEqDiff, Nat.reduceAdd, Nat.reduceSub, Nat.reduceMul, Nat.reduceLeDiff, Nat.reduceLT, Nat.reduceBEq, reduceIte]) ?_
    obtain ⟨oJ10, h, hJ10⟩ := obind h
    refine AW.join (S := Int) (fun e8_0 => []) (fun e8_0 => [some ⟨1, [[.d (.val (.int .i64 e8_0))]]⟩]) (fun x => oJ10 = .go x) ?_ ?_
    · refine AW.block ?_
      refine AW.iter (S := Int × Int) (fun (i7_0, i7_1) => [(1, .ptr 0 1 0 0), (2, .d (.val (.int .i64 p2))), (23, .d (slD NodeA.enc p0.kids)), (24, .d (.val (.int .i64 (p0.kids.length : Int)))), (25, .d (.val (.int .i64 i7_0)))]) (fun (i7_0, i7_1) => [some ⟨1, [[.d (.val (.int .i64 i7_1))]]⟩]) [0] h (by simp only [go_sem, Nat.reduceEqDiff, Nat.reduceAdd, Nat.reduceSub, Nat.reduceMul, Nat.reduceLeDiff, Nat.reduceLT, Nat.reduceBEq, reduceIte]) ?_
      rintro again ⟨i7_0, i7_1⟩ h
      try dsimp only at h
      refine AW.one ?_
      refine AW.reg mixed (by kernel_rfl) ?_
      try simp only [go_sem, Nat.reduceEqDiff, Nat.reduceAdd, Nat.reduceSub, Nat.reduceMul, Nat.reduceLeDiff, Nat.reduceLT, Nat.reduceBEq, reduceIte]
      refine AW.cut [0] [(1, .ptr 0 1 0 0), (2, .d (.val (.int .i64 p2))), (23, .d (slD NodeA.enc p0.kids)), (24, .d (.val (.int .i64 (p0.kids.length : Int)))), (25, .d (.val (.int .i64 i7_0))), (26, .d (.val (.bool (decide (i7_0 < (p0.kids.length : Int))))))] [some ⟨1, [[.d (.val (.int .i64 i7_1))]]⟩] (by simp only [go_sem, Nat.reduceEqDiff, Nat.reduceAdd, Nat.reduceSub, Nat.reduceMul, Nat.reduceLeDiff, Nat.reduceLT, Nat.reduceBEq, reduceIte]) ?_
      refine AW.one ?_
      refine AW.test (t := (decide (i7_0 < (p0.kids.length : Int)))) (by simp only [go_sem, Nat.reduceEqDiff, Nat.reduceAdd, Nat.reduceSub, Nat.reduceMul, Nat.reduceLeDiff, Nat.reduceLT, Nat.reduceBEq, reduceIte]) (fun hb11 => ?_) (fun hb11 => ?_)
      · have h := ifT hb11 h
        refine AW.skip ?_
        try simp only [go_sem, Nat.reduceEqDiff, Nat.reduceAdd, Nat.reduceSub, Nat.reduceMul, Nat.reduceLeDiff, Nat.reduceLT, Nat.reduceBEq, reduceIte]
        refine AW.cut [0] [(1, .ptr 0 1 0 0), (2, .d (.val (.int .i64 p2))), (23, .d (slD NodeA.enc p0.kids)), (24, .d (.val (.int .i64 (p0.kids.length : Int)))), (25, .d (.val (.int .i64 i7_0)))] [some ⟨1, [[.d (.val (.int .i64 i7_1))]]⟩] (by simp only [go_sem, Nat.reduceEqDiff, Nat.reduceAdd, Nat.reduceSub, Nat.reduceMul, Nat.reduceLeDiff, Nat.reduceLT, Nat.reduceBEq, reduceIte]) ?_
        refine AW.one ?_
        refine AW.block ?_
        refine AW.one ?_
        refine AW.reg mixed (by kernel_rfl) ?_
        obtain ⟨x12, hx13, h⟩ := obind h
        try simp only [go_sem, Nat.reduceEqDiff, Nat.reduceAdd, Nat.reduceSub, Nat.reduceMul, Nat.reduceLeDiff, Nat.reduceLT, Nat.reduceBEq, reduceIte, (idx_some hx13).1, (idx_some hx13).2]
        refine AW.cut [0, 3] [(1, .ptr 0 1 0 0), (2, .d (.val (.int .i64 p2))), (8, .ptr 1 6 0 0), (23, .d (slD NodeA.enc p0.kids)), (24, .d (.val (.int .i64 (p0.kids.length : Int)))), (25, .d (.val (.int .i64 i7_0)))] [some ⟨1, [[.d (.val (.int .i64 i7_1))]]⟩, some ⟨6, [[.d (.val (.int .i64 x12.op)), .d (.val (.string x12.name)), .d (.val (.bool x12.num.neg)), .d (slD u32V x12.num.num), .d (slD u32V x12.num.den), .d (slD NodeA.enc x12.kids)]]⟩] (by simp only [go_sem, Nat.reduceEqDiff, Nat.reduceAdd, Nat.reduceSub, Nat.reduceMul, Nat.reduceLeDiff, Nat.reduceLT, Nat.reduceBEq, reduceIte, (idx_some hx13).1, (idx_some hx13).2]) ?_
        refine AW.one ?_
        refine AW.reg mixed (by kernel_rfl) ?_
        try simp only [go_sem, Nat.reduceEqDiff, Nat.reduceAdd, Nat.reduceSub, Nat.reduceMul, Nat.reduceLeDiff, Nat.reduceLT, Nat.reduceBEq, reduceIte]
        obtain ⟨r14, hx15, h⟩ := obind h
        have hc := hself73 _ _ hx15
        try simp only [NodeA.enc_eta, RatA.enc_eta, aggV, i64V, u32V, strV, List.map_cons, List.map_nil] at hc
        refine callK_loc [0] hc (by simp only [go_sem, Nat.reduceEqDiff, Nat.reduceAdd, Nat.reduceSub, Nat.reduceMul, Nat.reduceLeDiff, Nat.reduceLT, Nat.reduceBEq, reduceIte]) (by simp) (by simp only [go_sem, Nat.reduceEqDiff, Nat.reduceAdd, Nat.reduceSub, Nat.reduceMul, Nat.reduceLeDiff, Nat.reduceLT, Nat.reduceBEq, reduceIte]) ?_
        try simp only [go_sem, Nat.reduceEqDiff, Nat.reduceAdd, Nat.reduceSub, Nat.reduceMul, Nat.reduceLeDiff, Nat.reduceLT, Nat.reduceBEq, reduceIte]
        refine AW.cut [0] [(1, .ptr 0 1 0 0), (2, .d (.val (.int .i64 p2))), (23, .d (slD NodeA.enc p0.kids)), (24, .d (.val (.int .i64 (p0.kids.length : Int)))), (25, .d (.val (.int .i64 i7_0))), (34, .d (.val (.bool (!r14.1))))] [some ⟨1, [[.d (.val (.int .i64 r14.2))]]⟩] (by simp only [go_sem, Nat.reduceEqDiff, Nat.reduceAdd, Nat.reduceSub, Nat.reduceMul, Nat.reduceLeDiff, Nat.reduceLT, Nat.reduceBEq, reduceIte]) ?_
        refine AW.test (t := (!r14.1)) (by simp only [go_sem, Nat.reduceEqDiff, Nat.reduceAdd, Nat.reduceSub, Nat.reduceMul, Nat.reduceLeDiff, Nat.reduceLT, Nat.reduceBEq, reduceIte]) (fun hb16 => ?_) (fun hb16 => ?_)
        · have h := ifT hb16 h
          refine AW.one ?_
          refine AW.reg mixed (by kernel_rfl) ?_
          try simp only [go_sem, Nat.reduceEqDiff, Nat.reduceAdd, Nat.reduceSub, Nat.reduceMul, Nat.reduceLeDiff, Nat.reduceLT, Nat.reduceBEq, reduceIte]
          refine AW.ret ?_
          obtain ⟨_, h, ho⟩ := outM_some h
          rw [ho, Out.fin_out] at hJ10
          have h := h.trans hJ10
          obtain rfl := Option.some.inj h
          simp only [go_sem, Nat.reduceEqDiff, Nat.reduceAdd, Nat.reduceSub, Nat.reduceMul, Nat.reduceLeDiff, Nat.reduceLT, Nat.reduceBEq, reduceIte]
          exact ⟨.same _, ⟨⟨.same _, trivial⟩, trivial⟩⟩
        · have h := ifF hb16 h
          refine AW.skip ?_
          try simp only [go_sem, Nat.reduceEqDiff, Nat.reduceAdd, Nat.reduceSub, Nat.reduceMul, Nat.reduceLeDiff, Nat.reduceLT, Nat.reduceBEq, reduceIte]
          refine AW.cut [0] [(1, .ptr 0 1 0 0), (2, .d (.val (.int .i64 p2))), (23, .d (slD NodeA.enc p0.kids)), (24, .d (.val (.int .i64 (p0.kids.length : Int)))), (25, .d (.val (.int .i64 i7_0)))] [some ⟨1, [[.d (.val (.int .i64 r14.2))]]⟩] (by simp only [go_sem, Nat.reduceEqDiff, Nat.reduceAdd, Nat.reduceSub, Nat.reduceMul, Nat.reduceLeDiff, Nat.reduceLT, Nat.reduceBEq, reduceIte]) ?_
          refine AW.reg mixed (by kernel_rfl) ?_
          try simp only [go_sem, Nat.reduceEqDiff, Nat.reduceAdd, Nat.reduceSub, Nat.reduceMul, Nat.reduceLeDiff, Nat.reduceLT, Nat.reduceBEq, reduceIte]
          refine NextQ.mk (IntKind.wrap .i64 (i7_0 + (1 : Int)), r14.2) [0] h (by simp only [go_sem, Nat.reduceEqDiff, Nat.reduceAdd, Nat.reduceSub, Nat.reduceMul, Nat.reduceLeDiff, Nat.reduceLT, Nat.reduceBEq, reduceIte])
      · have h := ifF hb11 h
        refine AW.exit ?_
        try simp only [go_sem, Nat.reduceEqDiff, Nat.reduceAdd, Nat.reduceSub, Nat.reduceMul, Nat.reduceLeDiff, Nat.reduceLT, Nat.reduceBEq, reduceIte]
        refine JoinQ.mk i7_1 [0] (Option.some.inj h).symm (by simp only [go_sem, Nat.reduceEqDiff, Nat.reduceAdd, Nat.reduceSub, Nat.reduceMul, Nat.reduceLeDiff, Nat.reduceLT, Nat.reduceBEq, reduceIte])
    · rintro e8_0 rfl
      have h := hJ10
      try dsimp only [Out.fin] at h
      simp only [go_sem, Nat.reduceEqDiff, Nat.reduceAdd, Nat.reduceSub, Nat.reduceMul, Nat.reduceLeDiff, Nat.reduceLT, Nat.reduceBEq, reduceIte]
      refine AW.cut [0] [] [some ⟨1, [[.d (.val (.int .i64 e8_0))]]⟩] (by simp only [go_sem, Nat.reduceEqDiff, Nat.reduceAdd, Nat.reduceSub, Nat.reduceMul, Nat.reduceLeDiff, Nat.reduceLT, Nat.reduceBEq, reduceIte]) ?_
      refine AW.one ?_
      refine AW.reg mixed (by kernel_rfl) ?_
      try simp only [go_sem, Nat.reduceEqDiff, Nat.reduceAdd, Nat.reduceSub, Nat.reduceMul, Nat.reduceLeDiff, Nat.reduceLT, Nat.reduceBEq, reduceIte]
      refine AW.ret ?_
      obtain rfl := Option.some.inj h
      simp only [go_sem, Nat.reduceEqDiff, Nat.reduceAdd, Nat.reduceSub, Nat.reduceMul, Nat.reduceLeDiff, Nat.reduceLT, Nat.reduceBEq, reduceIte]
      exact ⟨.same _, ⟨⟨.same _, trivial⟩, trivial⟩⟩
def tree_within (K : Nat) (p0 : NodeA) (p1 : Int) (p2 : Int) : Option (Bool × Int) := iter K (fun self q => tree_within_body K self q.1 q.2.1 q.2.2) (p0, p1, p2)
theorem key_tree_within {K : Nat} (k : Nat) : (∀ (q : NodeA × Int × Int) (r : Bool × Int), iter k (fun self q => tree_within_body K self q.1 q.2.1 q.2.2) q = some r → Cl Try.prog 73 [aggV q.1.enc, .ptr 0 1 0 0, .d (.val (.int .i64 q.2.2))] [⟨1, [[.d (.val (.int .i64 q.2.1))]]⟩] (.d (.val (.bool r.1))) [⟨1, [[.d (.val (.int .i64 r.2))]]⟩]) := by
  induction k with
  | zero => exact fun q r h => by cases h
  | succ k ih => exact fun q r h => tree_within_step K _ ih q.1 q.2.1 q.2.2 r h
theorem tree_within_ok {K : Nat} {p0 : NodeA} {p1 : Int} {p2 : Int} {r : Bool × Int} (h : tree_within K p0 p1 p2 = some r) : Cl Try.prog 73 [aggV p0.enc, .ptr 0 1 0 0, .d (.val (.int .i64 p2))] [⟨1, [[.d (.val (.int .i64 p1))]]⟩] (.d (.val (.bool r.1))) [⟨1, [[.d (.val (.int .i64 r.2))]]⟩] := (key_tree_within K) (p0, p1, p2) r h

end Go.Proofs.Ytcgphoghmgeecaa
namespace Go.Proofs.Ytcgphoghmgeecaa
open Go Go.Iso Go.Proofs
set_option linter.unusedSimpArgs false
set_option linter.unusedVariables false
set_option maxRecDepth 100000

/-! ### isochrone/tree.Check -/
def tree_Check (K : Nat) (p0 : NodeA) (p1 : Int) : Option Int := ((
    ((
      if (decide (p1 < (1 : Int))) then
        some true
      else
        some (decide ((3 : Int) < p1))) : Option Bool).bind (fun v3_0 => 
    if v3_0 then
      outM (
        some (1 : Int))
    else
      some (.go ()))) : Option (Out Unit _)).bind (Out.fin fun _ => 
  (tree_within K p0 (4000 : Int) (60 : Int)).bind fun r7 => 
  if (!r7.1) then
    some (2 : Int)
  else
    (tree_Sort K p0.op).bind fun r10 => 
    if (r10 != p1) then
      some (80 : Int)
    else
      (tree_formed K p0 (Tree_placeA.mk false false false)).bind fun r13 => 
      if (!r13) then
        some (3 : Int)
      else
        some (0 : Int))
set_option maxHeartbeats 4000000 in
theorem tree_Check_ok {K : Nat} {p0 : NodeA} {p1 : Int} {r : Int} (h : tree_Check K p0 p1 = some r) : Cn Try.prog 64 [aggV p0.enc, .d (.val (.int .i64 p1))] (.d (.val (.int .i64 r))) := by
  refine Cn.ofA mixed Try.func64 rfl Try.call64 Try.ntmps64 Try.results64 (by simp) (by simp only [go_sem, Nat.reduceEqDiff, Nat.reduceAdd, Nat.reduceSub, Nat.reduceMul, Nat.reduceLeDiff, Nat.reduceLT, Nat.reduceBEq, reduceIte]) fun hfit => ?_
  unfold tree_Check at h
  refine AW.cut [] [(0, .agg [.d (.val (.int .i64 p0.op)), .d (.val (.string p0.name)), .d (.val (.bool p0.num.neg)), .d (slD u32V p0.num.num), .d (slD u32V p0.num.den), .d (slD NodeA.enc p0.kids)]), (1, .d (.val (.int .i64 p1)))] [] (by simp only [go_sem, Nat.reduceEqDiff, Nat.reduceAdd, Nat.reduceSub, Nat.reduceMul, Nat.reduceLeDiff, Nat.reduceLT, Nat.reduceBEq, reduceIte]) ?_
  refine AW.one ?_
  refine AW.reg mixed (by kernel_rfl) ?_
  try simp only [go_sem, Nat.reduceEqDiff, Nat.reduceAdd, Nat.reduceSub, Nat.reduceMul, Nat.reduceLeDiff, Nat.reduceLT, Nat.reduceBEq, reduceIte]
  refine AW.cut [0] [(1, .d (.val (.int .i64 p1))), (2, .ptr 0 6 0 0)] [some ⟨6, [[.d (.val (.int .i64 p0.op)), .d (.val (.string p0.name)), .d (.val (.bool p0.num.neg)), .d (slD u32V p0.num.num), .d (slD u32V p0.num.den), .d (slD NodeA.enc p0.kids)]]⟩] (by simp only [go_sem, Nat.reduceEqDiff, Nat.reduceAdd, Nat.reduceSub, Nat.reduceMul, Nat.reduceLeDiff, Nat.reduceLT, Nat.reduceBEq, reduceIte]) ?_
  refine AW.one ?_
  obtain ⟨oJ2, h, hJ2⟩ := obind h
  refine AW.join (S := Unit) (fun _ => [(1, .d (.val (.int .i64 p1))), (2, .ptr 0 6 0 0)]) (fun _ => [some ⟨6, [[.d (.val (.int .i64 p0.op)), .d (.val (.string p0.name)), .d (.val (.bool p0.num.neg)), .d (slD u32V p0.num.num), .d (slD u32V p0.num.den), .d (slD NodeA.enc p0.kids)]]⟩]) (fun x => oJ2 = .go x) ?_ ?_
  · skip
    refine AW.one ?_
    obtain ⟨oJ4, h, hJ4⟩ := obind h
    refine AW.join (S := Bool) (fun v3_0 => [(1, .d (.val (.int .i64 p1))), (2, .ptr 0 6 0 0), (11, .d (.val (.bool v3_0)))]) (fun v3_0 => [some ⟨6, [[.d (.val (.int .i64 p0.op)), .d (.val (.string p0.name)), .d (.val (.bool p0.num.neg)), .d (slD u32V p0.num.num), .d (slD u32V p0.num.den), .d (slD NodeA.enc p0.kids)]]⟩]) (fun x => x = oJ4) ?_ ?_
    · skip
      refine AW.reg mixed (by kernel_rfl) ?_
      try simp only [go_sem, Nat.reduceEqDiff, Nat.reduceAdd, Nat.reduceSub, Nat.reduceMul, Nat.reduceLeDiff, Nat.reduceLT, Nat.reduceBEq, reduceIte]
      refine splitK_intro (fun hb5 => ?_) (fun hb5 => ?_)
      · have h := ifT hb5 h
        try simp only [go_sem, Nat.reduceEqDiff, Nat.reduceAdd, Nat.reduceSub, Nat.reduceMul, Nat.reduceLeDiff, Nat.reduceLT, Nat.reduceBEq, reduceIte, hb5]
        refine JoinQ.mk true [0] (Option.some.inj h) (by simp only [go_sem, Nat.reduceEqDiff, Nat.reduceAdd, Nat.reduceSub, Nat.reduceMul, Nat.reduceLeDiff, Nat.reduceLT, Nat.reduceBEq, reduceIte, hb5])
      · have h := ifF hb5 h
        try simp only [go_sem, Nat.reduceEqDiff, Nat.reduceAdd, Nat.reduceSub, Nat.reduceMul, Nat.reduceLeDiff, Nat.reduceLT, Nat.reduceBEq, reduceIte, hb5]
        refine JoinQ.mk (decide ((3 : Int) < p1)) [0] (Option.some.inj h) (by simp only [go_sem, Nat.reduceEqDiff, Nat.reduceAdd, Nat.reduceSub, Nat.reduceMul, Nat.reduceLeDiff, Nat.reduceLT, Nat.reduceBEq, reduceIte, hb5])
    · rintro v3_0 rfl
      have h := hJ4
      try dsimp only [Out.fin] at h
      simp only [go_sem, Nat.reduceEqDiff, Nat.reduceAdd, Nat.reduceSub, Nat.reduceMul, Nat.reduceLeDiff, Nat.reduceLT, Nat.reduceBEq, reduceIte]
      refine AW.test (t := v3_0) (by simp only [go_sem, Nat.reduceEqDiff, Nat.reduceAdd, Nat.reduceSub, Nat.reduceMul, Nat.reduceLeDiff, Nat.reduceLT, Nat.reduceBEq, reduceIte]) (fun hb6 => ?_) (fun hb6 => ?_)
      · have h := ifT hb6 h
        refine AW.one ?_
        refine AW.reg mixed (by kernel_rfl) ?_
        try simp only [go_sem, Nat.reduceEqDiff, Nat.reduceAdd, Nat.reduceSub, Nat.reduceMul, Nat.reduceLeDiff, Nat.reduceLT, Nat.reduceBEq, reduceIte]
        refine AW.ret ?_
        obtain ⟨_, h, ho⟩ := outM_some h
        rw [ho, Out.fin_out] at hJ2
        have h := h.trans hJ2
        obtain rfl := Option.some.inj h
        simp only [go_sem, Nat.reduceEqDiff, Nat.reduceAdd, Nat.reduceSub, Nat.reduceMul, Nat.reduceLeDiff, Nat.reduceLT, Nat.reduceBEq, reduceIte]
        exact .same _
      · have h := ifF hb6 h
        refine AW.skip ?_
        try simp only [go_sem, Nat.reduceEqDiff, Nat.reduceAdd, Nat.reduceSub, Nat.reduceMul, Nat.reduceLeDiff, Nat.reduceLT, Nat.reduceBEq, reduceIte]
        refine JoinQ.mk () [0] (Option.some.inj h).symm (by simp only [go_sem, Nat.reduceEqDiff, Nat.reduceAdd, Nat.reduceSub, Nat.reduceMul, Nat.reduceLeDiff, Nat.reduceLT, Nat.reduceBEq, reduceIte])
  · rintro ⟨⟩ rfl
    have h := hJ2
    try dsimp only [Out.fin] at h
    simp only [go_sem, Nat.reduceEqDiff, Nat.reduceAdd, Nat.reduceSub, Nat.reduceMul, Nat.reduceLeDiff, Nat.reduceLT, Nat.reduceBEq, reduceIte]
    refine AW.one ?_
    refine AW.reg mixed (by kernel_rfl) ?_
    try simp only [go_sem, Nat.reduceEqDiff, Nat.reduceAdd, Nat.reduceSub, Nat.reduceMul, Nat.reduceLeDiff, Nat.reduceLT, Nat.reduceBEq, reduceIte]
    refine AW.cut [0, 1] [(1, .d (.val (.int .i64 p1))), (2, .ptr 0 6 0 0), (5, .ptr 1 1 0 0)] [some ⟨6, [[.d (.val (.int .i64 p0.op)), .d (.val (.string p0.name)), .d (.val (.bool p0.num.neg)), .d (slD u32V p0.num.num), .d (slD u32V p0.num.den), .d (slD NodeA.enc p0.kids)]]⟩, some ⟨1, [[.d (.val (.int .i64 (4000 : Int)))]]⟩] (by simp only [go_sem, Nat.reduceEqDiff, Nat.reduceAdd, Nat.reduceSub, Nat.reduceMul, Nat.reduceLeDiff, Nat.reduceLT, Nat.reduceBEq, reduceIte]) ?_
    refine AW.one ?_
    refine AW.one ?_
    refine AW.reg mixed (by kernel_rfl) ?_
    try simp only [go_sem, Nat.reduceEqDiff, Nat.reduceAdd, Nat.reduceSub, Nat.reduceMul, Nat.reduceLeDiff, Nat.reduceLT, Nat.reduceBEq, reduceIte]
    obtain ⟨r7, hx8, h⟩ := obind h
    have hc := tree_within_ok (h := hx8)
    try simp only [NodeA.enc_eta, RatA.enc_eta, aggV, i64V, u32V, strV, List.map_cons, List.map_nil] at hc
    refine callK_loc [1] hc (by simp only [go_sem, Nat.reduceEqDiff, Nat.reduceAdd, Nat.reduceSub, Nat.reduceMul, Nat.reduceLeDiff, Nat.reduceLT, Nat.reduceBEq, reduceIte]) (by simp) (by simp only [go_sem, Nat.reduceEqDiff, Nat.reduceAdd, Nat.reduceSub, Nat.reduceMul, Nat.reduceLeDiff, Nat.reduceLT, Nat.reduceBEq, reduceIte]) ?_
    try simp only [go_sem, Nat.reduceEqDiff, Nat.reduceAdd, Nat.reduceSub, Nat.reduceMul, Nat.reduceLeDiff, Nat.reduceLT, Nat.reduceBEq, reduceIte]
    refine AW.cut [0] [(1, .d (.val (.int .i64 p1))), (2, .ptr 0 6 0 0), (14, .d (.val (.bool (!r7.1))))] [some ⟨6, [[.d (.val (.int .i64 p0.op)), .d (.val (.string p0.name)), .d (.val (.bool p0.num.neg)), .d (slD u32V p0.num.num), .d (slD u32V p0.num.den), .d (slD NodeA.enc p0.kids)]]⟩] (by simp only [go_sem, Nat.reduceEqDiff, Nat.reduceAdd, Nat.reduceSub, Nat.reduceMul, Nat.reduceLeDiff, Nat.reduceLT, Nat.reduceBEq, reduceIte]) ?_
    refine AW.test (t := (!r7.1)) (by simp only [go_sem, Nat.reduceEqDiff, Nat.reduceAdd, Nat.reduceSub, Nat.reduceMul, Nat.reduceLeDiff, Nat.reduceLT, Nat.reduceBEq, reduceIte]) (fun hb9 => ?_) (fun hb9 => ?_)
    · have h := ifT hb9 h
      refine AW.one ?_
      refine AW.reg mixed (by kernel_rfl) ?_
      try simp only [go_sem, Nat.reduceEqDiff, Nat.reduceAdd, Nat.reduceSub, Nat.reduceMul, Nat.reduceLeDiff, Nat.reduceLT, Nat.reduceBEq, reduceIte]
      refine AW.ret ?_
      obtain rfl := Option.some.inj h
      simp only [go_sem, Nat.reduceEqDiff, Nat.reduceAdd, Nat.reduceSub, Nat.reduceMul, Nat.reduceLeDiff, Nat.reduceLT, Nat.reduceBEq, reduceIte]
      exact .same _
    · have h := ifF hb9 h
      refine AW.skip ?_
      try simp only [go_sem, Nat.reduceEqDiff, Nat.reduceAdd, Nat.reduceSub, Nat.reduceMul, Nat.reduceLeDiff, Nat.reduceLT, Nat.reduceBEq, reduceIte]
      refine AW.cut [0] [(1, .d (.val (.int .i64 p1))), (2, .ptr 0 6 0 0)] [some ⟨6, [[.d (.val (.int .i64 p0.op)), .d (.val (.string p0.name)), .d (.val (.bool p0.num.neg)), .d (slD u32V p0.num.num), .d (slD u32V p0.num.den), .d (slD NodeA.enc p0.kids)]]⟩] (by simp only [go_sem, Nat.reduceEqDiff, Nat.reduceAdd, Nat.reduceSub, Nat.reduceMul, Nat.reduceLeDiff, Nat.reduceLT, Nat.reduceBEq, reduceIte]) ?_
      refine AW.one ?_
      refine AW.one ?_
      refine AW.reg mixed (by kernel_rfl) ?_
      try simp only [go_sem, Nat.reduceEqDiff, Nat.reduceAdd, Nat.reduceSub, Nat.reduceMul, Nat.reduceLeDiff, Nat.reduceLT, Nat.reduceBEq, reduceIte]
      obtain ⟨r10, hx11, h⟩ := obind h
      have hc := tree_Sort_ok (h := hx11)
      try simp only [NodeA.enc_eta, RatA.enc_eta, aggV, i64V, u32V, strV, List.map_cons, List.map_nil] at hc
      refine callK_pure hc (by simp only [go_sem, Nat.reduceEqDiff, Nat.reduceAdd, Nat.reduceSub, Nat.reduceMul, Nat.reduceLeDiff, Nat.reduceLT, Nat.reduceBEq, reduceIte]) ?_
      try simp only [go_sem, Nat.reduceEqDiff, Nat.reduceAdd, Nat.reduceSub, Nat.reduceMul, Nat.reduceLeDiff, Nat.reduceLT, Nat.reduceBEq, reduceIte]
      refine AW.cut [0] [(2, .ptr 0 6 0 0), (19, .d (.val (.bool (r10 != p1))))] [some ⟨6, [[.d (.val (.int .i64 p0.op)), .d (.val (.string p0.name)), .d (.val (.bool p0.num.neg)), .d (slD u32V p0.num.num), .d (slD u32V p0.num.den), .d (slD NodeA.enc p0.kids)]]⟩] (by simp only [go_sem, Nat.reduceEqDiff, Nat.reduceAdd, Nat.reduceSub, Nat.reduceMul, Nat.reduceLeDiff, Nat.reduceLT, Nat.reduceBEq, reduceIte]) ?_
      refine AW.test (t := (r10 != p1)) (by simp only [go_sem, Nat.reduceEqDiff, Nat.reduceAdd, Nat.reduceSub, Nat.reduceMul, Nat.reduceLeDiff, Nat.reduceLT, Nat.reduceBEq, reduceIte]) (fun hb12 => ?_) (fun hb12 => ?_)
      · have h := ifT hb12 h
        refine AW.one ?_
        refine AW.reg mixed (by kernel_rfl) ?_
        try simp only [go_sem, Nat.reduceEqDiff, Nat.reduceAdd, Nat.reduceSub, Nat.reduceMul, Nat.reduceLeDiff, Nat.reduceLT, Nat.reduceBEq, reduceIte]
        refine AW.ret ?_
        obtain rfl := Option.some.inj h
        simp only [go_sem, Nat.reduceEqDiff, Nat.reduceAdd, Nat.reduceSub, Nat.reduceMul, Nat.reduceLeDiff, Nat.reduceLT, Nat.reduceBEq, reduceIte]
        exact .same _
      · have h := ifF hb12 h
        refine AW.skip ?_
        try simp only [go_sem, Nat.reduceEqDiff, Nat.reduceAdd, Nat.reduceSub, Nat.reduceMul, Nat.reduceLeDiff, Nat.reduceLT, Nat.reduceBEq, reduceIte]
        refine AW.cut [0] [(2, .ptr 0 6 0 0)] [some ⟨6, [[.d (.val (.int .i64 p0.op)), .d (.val (.string p0.name)), .d (.val (.bool p0.num.neg)), .d (slD u32V p0.num.num), .d (slD u32V p0.num.den), .d (slD NodeA.enc p0.kids)]]⟩] (by simp only [go_sem, Nat.reduceEqDiff, Nat.reduceAdd, Nat.reduceSub, Nat.reduceMul, Nat.reduceLeDiff, Nat.reduceLT, Nat.reduceBEq, reduceIte]) ?_
        refine AW.one ?_
        refine AW.one ?_
        refine AW.reg mixed (by kernel_rfl) ?_
        try simp only [go_sem, Nat.reduceEqDiff, Nat.reduceAdd, Nat.reduceSub, Nat.reduceMul, Nat.reduceLeDiff, Nat.reduceLT, Nat.reduceBEq, reduceIte]
        obtain ⟨r13, hx14, h⟩ := obind h
        have hc := tree_formed_ok (h := hx14)
        try simp only [NodeA.enc_eta, RatA.enc_eta, aggV, i64V, u32V, strV, List.map_cons, List.map_nil] at hc
        refine callK_pure hc (by simp only [go_sem, Nat.reduceEqDiff, Nat.reduceAdd, Nat.reduceSub, Nat.reduceMul, Nat.reduceLeDiff, Nat.reduceLT, Nat.reduceBEq, reduceIte]) ?_
        try simp only [go_sem, Nat.reduceEqDiff, Nat.reduceAdd, Nat.reduceSub, Nat.reduceMul, Nat.reduceLeDiff, Nat.reduceLT, Nat.reduceBEq, reduceIte]
        refine AW.cut [] [(23, .d (.val (.bool (!r13))))] [] (by simp only [go_sem, Nat.reduceEqDiff, Nat.reduceAdd, Nat.reduceSub, Nat.reduceMul, Nat.reduceLeDiff, Nat.reduceLT, Nat.reduceBEq, reduceIte]) ?_
        refine AW.test (t := (!r13)) (by simp only [go_sem, Nat.reduceEqDiff, Nat.reduceAdd, Nat.reduceSub, Nat.reduceMul, Nat.reduceLeDiff, Nat.reduceLT, Nat.reduceBEq, reduceIte]) (fun hb15 => ?_) (fun hb15 => ?_)
        · have h := ifT hb15 h
          refine AW.one ?_
          refine AW.reg mixed (by kernel_rfl) ?_
          try simp only [go_sem, Nat.reduceEqDiff, Nat.reduceAdd, Nat.reduceSub, Nat.reduceMul, Nat.reduceLeDiff, Nat.reduceLT, Nat.reduceBEq, reduceIte]
          refine AW.ret ?_
          obtain rfl := Option.some.inj h
          simp only [go_sem, Nat.reduceEqDiff, Nat.reduceAdd, Nat.reduceSub, Nat.reduceMul, Nat.reduceLeDiff, Nat.reduceLT, Nat.reduceBEq, reduceIte]
          exact .same _
        · have h := ifF hb15 h
          refine AW.skip ?_
          try simp only [go_sem, Nat.reduceEqDiff, Nat.reduceAdd, Nat.reduceSub, Nat.reduceMul, Nat.reduceLeDiff, Nat.reduceLT, Nat.reduceBEq, reduceIte]
          refine AW.cut [] [] [] (by simp only [go_sem, Nat.reduceEqDiff, Nat.reduceAdd, Nat.reduceSub, Nat.reduceMul, Nat.reduceLeDiff, Nat.reduceLT, Nat.reduceBEq, reduceIte]) ?_
          refine AW.one ?_
          refine AW.reg mixed (by kernel_rfl) ?_
          try simp only [go_sem, Nat.reduceEqDiff, Nat.reduceAdd, Nat.reduceSub, Nat.reduceMul, Nat.reduceLeDiff, Nat.reduceLT, Nat.reduceBEq, reduceIte]
          refine AW.ret ?_
          obtain rfl := Option.some.inj h
          simp only [go_sem, Nat.reduceEqDiff, Nat.reduceAdd, Nat.reduceSub, Nat.reduceMul, Nat.reduceLeDiff, Nat.reduceLT, Nat.reduceBEq, reduceIte]
          exact .same _

end Go.Proofs.Ytcgphoghmgeecaa
namespace Go.Proofs.Ytcgphoghmgeecaa
open Go Go.Iso Go.Proofs
set_option linter.unusedSimpArgs false
set_option linter.unusedVariables false
set_option maxRecDepth 100000

/-! ### isochrone/static.check -/
def static_check (K : Nat) (p0 : NodeA) : Option Int := (tree_Sort K p0.op).bind fun r1 => 
  ((
    ((
      if (r1 == (0 : Int)) then
        some true
      else
        some (r1 == (4 : Int))) : Option Bool).bind (fun v5_0 => 
    if v5_0 then
      outM (
        some (80 : Int))
    else
      some (.go ()))) : Option (Out Unit _)).bind (Out.fin fun _ => 
  (tree_Check K p0 r1).bind fun r9 => 
  some r9)
set_option maxHeartbeats 4000000 in
theorem static_check_ok {K : Nat} {p0 : NodeA} {r : Int} (h : static_check K p0 = some r) : Cn Try.prog 43 [aggV p0.enc] (.d (.val (.int .i64 r))) := by
  refine Cn.ofA mixed Try.func43 rfl Try.call43 Try.ntmps43 Try.results43 (by simp) (by simp only [go_sem, Nat.reduceEqDiff, Nat.reduceAdd, Nat.reduceSub, Nat.reduceMul, Nat.reduceLeDiff, Nat.reduceLT, Nat.reduceBEq, reduceIte]) fun hfit => ?_
  unfold static_check at h
  refine AW.cut [] [(0, .agg [.d (.val (.int .i64 p0.op)), .d (.val (.string p0.name)), .d (.val (.bool p0.num.neg)), .d (slD u32V p0.num.num), .d (slD u32V p0.num.den), .d (slD NodeA.enc p0.kids)])] [] (by simp only [go_sem, Nat.reduceEqDiff, Nat.reduceAdd, Nat.reduceSub, Nat.reduceMul, Nat.reduceLeDiff, Nat.reduceLT, Nat.reduceBEq, reduceIte]) ?_
  refine AW.one ?_
  refine AW.reg mixed (by kernel_rfl) ?_
  try simp only [go_sem, Nat.reduceEqDiff, Nat.reduceAdd, Nat.reduceSub, Nat.reduceMul, Nat.reduceLeDiff, Nat.reduceLT, Nat.reduceBEq, reduceIte]
  refine AW.cut [0] [(1, .ptr 0 6 0 0)] [some ⟨6, [[.d (.val (.int .i64 p0.op)), .d (.val (.string p0.name)), .d (.val (.bool p0.num.neg)), .d (slD u32V p0.num.num), .d (slD u32V p0.num.den), .d (slD NodeA.enc p0.kids)]]⟩] (by simp only [go_sem, Nat.reduceEqDiff, Nat.reduceAdd, Nat.reduceSub, Nat.reduceMul, Nat.reduceLeDiff, Nat.reduceLT, Nat.reduceBEq, reduceIte]) ?_
  refine AW.one ?_
  refine AW.reg mixed (by kernel_rfl) ?_
  try simp only [go_sem, Nat.reduceEqDiff, Nat.reduceAdd, Nat.reduceSub, Nat.reduceMul, Nat.reduceLeDiff, Nat.reduceLT, Nat.reduceBEq, reduceIte]
  obtain ⟨r1, hx2, h⟩ := obind h
  have hc := tree_Sort_ok (h := hx2)
  try simp only [NodeA.enc_eta, RatA.enc_eta, aggV, i64V, u32V, strV, List.map_cons, List.map_nil] at hc
  refine callK_pure hc (by simp only [go_sem, Nat.reduceEqDiff, Nat.reduceAdd, Nat.reduceSub, Nat.reduceMul, Nat.reduceLeDiff, Nat.reduceLT, Nat.reduceBEq, reduceIte]) ?_
  try simp only [go_sem, Nat.reduceEqDiff, Nat.reduceAdd, Nat.reduceSub, Nat.reduceMul, Nat.reduceLeDiff, Nat.reduceLT, Nat.reduceBEq, reduceIte]
  refine AW.cut [0] [(1, .ptr 0 6 0 0), (3, .d (.val (.int .i64 r1)))] [some ⟨6, [[.d (.val (.int .i64 p0.op)), .d (.val (.string p0.name)), .d (.val (.bool p0.num.neg)), .d (slD u32V p0.num.num), .d (slD u32V p0.num.den), .d (slD NodeA.enc p0.kids)]]⟩] (by simp only [go_sem, Nat.reduceEqDiff, Nat.reduceAdd, Nat.reduceSub, Nat.reduceMul, Nat.reduceLeDiff, Nat.reduceLT, Nat.reduceBEq, reduceIte]) ?_
  refine AW.one ?_
  obtain ⟨oJ4, h, hJ4⟩ := obind h
  refine AW.join (S := Unit) (fun _ => [(1, .ptr 0 6 0 0), (3, .d (.val (.int .i64 r1)))]) (fun _ => [some ⟨6, [[.d (.val (.int .i64 p0.op)), .d (.val (.string p0.name)), .d (.val (.bool p0.num.neg)), .d (slD u32V p0.num.num), .d (slD u32V p0.num.den), .d (slD NodeA.enc p0.kids)]]⟩]) (fun x => oJ4 = .go x) ?_ ?_
  · skip
    refine AW.one ?_
    obtain ⟨oJ6, h, hJ6⟩ := obind h
    refine AW.join (S := Bool) (fun v5_0 => [(1, .ptr 0 6 0 0), (3, .d (.val (.int .i64 r1))), (12, .d (.val (.bool v5_0)))]) (fun v5_0 => [some ⟨6, [[.d (.val (.int .i64 p0.op)), .d (.val (.string p0.name)), .d (.val (.bool p0.num.neg)), .d (slD u32V p0.num.num), .d (slD u32V p0.num.den), .d (slD NodeA.enc p0.kids)]]⟩]) (fun x => x = oJ6) ?_ ?_
    · skip
      refine AW.reg mixed (by kernel_rfl) ?_
      try simp only [go_sem, Nat.reduceEqDiff, Nat.reduceAdd, Nat.reduceSub, Nat.reduceMul, Nat.reduceLeDiff, Nat.reduceLT, Nat.reduceBEq, reduceIte]
      refine splitK_intro (fun hb7 => ?_) (fun hb7 => ?_)
      · have h := ifT hb7 h
        try simp only [go_sem, Nat.reduceEqDiff, Nat.reduceAdd, Nat.reduceSub, Nat.reduceMul, Nat.reduceLeDiff, Nat.reduceLT, Nat.reduceBEq, reduceIte, hb7]
        refine JoinQ.mk true [0] (Option.some.inj h) (by simp only [go_sem, Nat.reduceEqDiff, Nat.reduceAdd, Nat.reduceSub, Nat.reduceMul, Nat.reduceLeDiff, Nat.reduceLT, Nat.reduceBEq, reduceIte, hb7])
      · have h := ifF hb7 h
        try simp only [go_sem, Nat.reduceEqDiff, Nat.reduceAdd, Nat.reduceSub, Nat.reduceMul, Nat.reduceLeDiff, Nat.reduceLT, Nat.reduceBEq, reduceIte, hb7]
        refine JoinQ.mk (r1 == (4 : Int)) [0] (Option.some.inj h) (by simp only [go_sem, Nat.reduceEqDiff, Nat.reduceAdd, Nat.reduceSub, Nat.reduceMul, Nat.reduceLeDiff, Nat.reduceLT, Nat.reduceBEq, reduceIte, hb7])
    · rintro v5_0 rfl
      have h := hJ6
      try dsimp only [Out.fin] at h
      simp only [go_sem, Nat.reduceEqDiff, Nat.reduceAdd, Nat.reduceSub, Nat.reduceMul, Nat.reduceLeDiff, Nat.reduceLT, Nat.reduceBEq, reduceIte]
      refine AW.test (t := v5_0) (by simp only [go_sem, Nat.reduceEqDiff, Nat.reduceAdd, Nat.reduceSub, Nat.reduceMul, Nat.reduceLeDiff, Nat.reduceLT, Nat.reduceBEq, reduceIte]) (fun hb8 => ?_) (fun hb8 => ?_)
      · have h := ifT hb8 h
        refine AW.one ?_
        refine AW.reg mixed (by kernel_rfl) ?_
        try simp only [go_sem, Nat.reduceEqDiff, Nat.reduceAdd, Nat.reduceSub, Nat.reduceMul, Nat.reduceLeDiff, Nat.reduceLT, Nat.reduceBEq, reduceIte]
        refine AW.ret ?_
        obtain ⟨_, h, ho⟩ := outM_some h
        rw [ho, Out.fin_out] at hJ4
        have h := h.trans hJ4
        obtain rfl := Option.some.inj h
        simp only [go_sem, Nat.reduceEqDiff, Nat.reduceAdd, Nat.reduceSub, Nat.reduceMul, Nat.reduceLeDiff, Nat.reduceLT, Nat.reduceBEq, reduceIte]
        exact .same _
      · have h := ifF hb8 h
        refine AW.skip ?_
        try simp only [go_sem, Nat.reduceEqDiff, Nat.reduceAdd, Nat.reduceSub, Nat.reduceMul, Nat.reduceLeDiff, Nat.reduceLT, Nat.reduceBEq, reduceIte]
        refine JoinQ.mk () [0] (Option.some.inj h).symm (by simp only [go_sem, Nat.reduceEqDiff, Nat.reduceAdd, Nat.reduceSub, Nat.reduceMul, Nat.reduceLeDiff, Nat.reduceLT, Nat.reduceBEq, reduceIte])
  · rintro ⟨⟩ rfl
    have h := hJ4
    try dsimp only [Out.fin] at h
    simp only [go_sem, Nat.reduceEqDiff, Nat.reduceAdd, Nat.reduceSub, Nat.reduceMul, Nat.reduceLeDiff, Nat.reduceLT, Nat.reduceBEq, reduceIte]
    refine AW.one ?_
    refine AW.reg mixed (by kernel_rfl) ?_
    try simp only [go_sem, Nat.reduceEqDiff, Nat.reduceAdd, Nat.reduceSub, Nat.reduceMul, Nat.reduceLeDiff, Nat.reduceLT, Nat.reduceBEq, reduceIte]
    obtain ⟨r9, hx10, h⟩ := obind h
    have hc := tree_Check_ok (h := hx10)
    try simp only [NodeA.enc_eta, RatA.enc_eta, aggV, i64V, u32V, strV, List.map_cons, List.map_nil] at hc
    refine callK_pure hc (by simp only [go_sem, Nat.reduceEqDiff, Nat.reduceAdd, Nat.reduceSub, Nat.reduceMul, Nat.reduceLeDiff, Nat.reduceLT, Nat.reduceBEq, reduceIte]) ?_
    try simp only [go_sem, Nat.reduceEqDiff, Nat.reduceAdd, Nat.reduceSub, Nat.reduceMul, Nat.reduceLeDiff, Nat.reduceLT, Nat.reduceBEq, reduceIte]
    refine AW.ret ?_
    obtain rfl := Option.some.inj h
    simp only [go_sem, Nat.reduceEqDiff, Nat.reduceAdd, Nat.reduceSub, Nat.reduceMul, Nat.reduceLeDiff, Nat.reduceLT, Nat.reduceBEq, reduceIte]
    exact .same _

end Go.Proofs.Ytcgphoghmgeecaa
