/- Part of the proof of a law: contracts of the functions that the law reaches, or plain laws of them, out of the abstract layer (the texts YtngmfimpaembnaaGreatDoorIso..). No condition. -/
import Derived.Test.YtngmfimpaembnaaGreatDoorW
import Derived.Test.YtngmfimpaembnaaGreatDoorIsoI
import Derived.Test.YtngmfimpaembnaaGreatDoorLman
import Derived.Test.YtngmfimpaembnaaGreatDoorShelf
import Derived.Test.YtngmfimpaembnaaGreatDoorIsoU
import Derived.Test.YtngmfimpaembnaaGreatDoorIsoQ
import Derived.Test.YtngmfimpaembnaaGreatDoorPb
open Nat (reduceEqDiff reduceAdd reduceSub reduceMul reduceLeDiff reduceLT)
namespace Go.Proofs.YtngmfimpaembnaaGreatDoor
open Go Go.Iso Go.Proofs
set_option linter.unusedSimpArgs false
set_option linter.unusedVariables false
set_option maxRecDepth 100000
/-! ### isochrone/isochroneref01.Text -/
def r01_Text (K : Nat) (p0 : List Int) : Option ByteArray := if ((p0.length : Int) == (0 : Int)) then
    some (⟨#[48]⟩ : ByteArray)
  else
    ((iter (S := Int × (List Int)) (R := (List Int)) K (fun again (i2_0, i2_1) => 
      if (decide ((0 : Int) ≤ i2_0)) then
        ((iter (S := Int × (List Int)) (R := (List Int)) K (fun again (i7_0, i7_1) => 
          if (decide ((0 : Int) < i7_0)) then
            ((
              (idx p0 i2_0).bind fun x14 => 
              (must (i7_0 != 0)).bind fun z16 => 
              (must ((10 : Int) != 0)).bind fun z18 => 
              ((
                if (decide ((0 : Int) < (i7_1.length : Int))) then
                  some true
                else
                  some (decide ((0 : Int) < ((IntKind.wrap .i64 (x14.tdiv i7_0)).tmod (10 : Int))))) : Option Bool).bind (fun v20_0 => 
              if v20_0 then
                (appO 1 i7_1 [IntKind.wrap .u8 (IntKind.wrap .i64 ((48 : Int) + ((IntKind.wrap .i64 (x14.tdiv i7_0)).tmod (10 : Int))))]).bind fun l24 => 
                some l24
              else
                some i7_1)) : Option (List Int)).bind (fun v12_0 => 
            (must ((10 : Int) != 0)).bind fun z26 => 
            again (IntKind.wrap .i64 (i7_0.tdiv (10 : Int)), v12_0))
          else
            some i7_1) ((1000 : Int), i2_1)) : Option (List Int)).bind (fun e8_0 => 
        again (IntKind.wrap .i64 (i2_0 - (1 : Int)), e8_0))
      else
        some i2_1) (IntKind.wrap .i64 ((p0.length : Int) - (1 : Int)), [])) : Option (List Int)).bind (fun e3_0 => 
    some (strOfNums e3_0))
set_option maxHeartbeats 4000000 in
theorem r01_Text_ok {K : Nat} {p0 : List Int} {r : ByteArray} (h : r01_Text K p0 = some r) : Cn Tryz.prog 51 [.d (slD i64V p0)] (.d (.val (.string r))) := by
  refine Cn.ofA mixed Tryz.func51 rfl Tryz.call51 Tryz.ntmps51 Tryz.results51 (by simp) (by simp only [go_sem, reduceEqDiff, reduceAdd, reduceSub, reduceMul, reduceLeDiff, reduceLT, Nat.reduceBEq, reduceIte]) fun hfit => ?_
  unfold r01_Text at h
  refine AW.kp [] [0] ?_
  refine AW.op mixed ?_
  refine AW.kp [] [0] ?_
  refine AW.one ?_
  refine AW.op mixed ?_
  refine AW.kp [] [0, 9] ?_
  refine AW.ts ((p0.length : Int) == (0 : Int)) (fun hb1 => ?_) (fun hb1 => ?_)
  · have h := ifT hb1 h
    refine AW.op mixed ?_
    refine AW.ret ?_
    obtain rfl := Option.some.inj h
    refine nz ?_
    exact .same _
  have h := ifF hb1 h
  refine AW.sk ?_
  refine AW.kp [] [0] ?_
  refine AW.op mixed ?_
  refine AW.kp [] [0, 3] ?_
  refine AW.one ?_
  refine AW.op mixed ?_
  refine AW.kp [] [0, 3, 4] ?_
  refine obindE h fun oJ5 h hJ5 => ?_
  refine AW.join (S := (List Int)) (fun e3_0 => [(3, accV 0 1 ((e3_0.map (fun x : Int => [D.val (.int .u8 x)])).map (·.map .d)))]) (fun e3_0 => [accO 1 ((e3_0.map (fun x : Int => [D.val (.int .u8 x)])).map (·.map .d))]) (fun x => x = oJ5) ?_ ?_
  · refine AW.block ?_
    refine AW.iter (S := Int × (List Int)) (fun (i2_0, i2_1) => [(0, .d (slD i64V p0)), (3, accV 0 1 ((i2_1.map (fun x : Int => [D.val (.int .u8 x)])).map (·.map .d))), (4, .d (.val (.int .i64 i2_0)))]) (fun (i2_0, i2_1) => [accO 1 ((i2_1.map (fun x : Int => [D.val (.int .u8 x)])).map (·.map .d))]) [1000] h (by simp only [go_sem, reduceEqDiff, reduceAdd, reduceSub, reduceMul, reduceLeDiff, reduceLT, Nat.reduceBEq, reduceIte]) ?_
    rintro again ⟨i2_0, i2_1⟩ h
    try dsimp only at h
    refine AW.one ?_
    refine AW.op mixed ?_
    refine AW.cu [0] [(0, .d (slD i64V p0)), (3, accV 0 1 ((i2_1.map (fun x : Int => [D.val (.int .u8 x)])).map (·.map .d))), (4, .d (.val (.int .i64 i2_0))), (14, .d (.val (.bool (decide ((0 : Int) ≤ i2_0)))))] [accO 1 ((i2_1.map (fun x : Int => [D.val (.int .u8 x)])).map (·.map .d))] ?_
    refine AW.ts (decide ((0 : Int) ≤ i2_0)) (fun hb6 => ?_) (fun hb6 => ?_)
    · have h := ifT hb6 h
      refine AW.sk ?_
      refine AW.cu [0] [(0, .d (slD i64V p0)), (3, accV 0 1 ((i2_1.map (fun x : Int => [D.val (.int .u8 x)])).map (·.map .d))), (4, .d (.val (.int .i64 i2_0)))] [accO 1 ((i2_1.map (fun x : Int => [D.val (.int .u8 x)])).map (·.map .d))] ?_
      refine AW.one ?_
      refine AW.block ?_
      refine AW.op mixed ?_
      refine AW.cu [0] [(0, .d (slD i64V p0)), (3, accV 0 1 ((i2_1.map (fun x : Int => [D.val (.int .u8 x)])).map (·.map .d))), (4, .d (.val (.int .i64 i2_0))), (5, .d (.val (.int .i64 (1000 : Int))))] [accO 1 ((i2_1.map (fun x : Int => [D.val (.int .u8 x)])).map (·.map .d))] ?_
      refine obindE h fun oJ10 h hJ10 => ?_
      refine AW.join (S := (List Int)) (fun e8_0 => [(0, .d (slD i64V p0)), (3, accV 0 1 ((e8_0.map (fun x : Int => [D.val (.int .u8 x)])).map (·.map .d))), (4, .d (.val (.int .i64 i2_0)))]) (fun e8_0 => [accO 1 ((e8_0.map (fun x : Int => [D.val (.int .u8 x)])).map (·.map .d))]) (fun x => x = oJ10) ?_ ?_
      · refine AW.block ?_
        refine AW.iter (S := Int × (List Int)) (fun (i7_0, i7_1) => [(0, .d (slD i64V p0)), (3, accV 0 1 ((i7_1.map (fun x : Int => [D.val (.int .u8 x)])).map (·.map .d))), (4, .d (.val (.int .i64 i2_0))), (5, .d (.val (.int .i64 i7_0)))]) (fun (i7_0, i7_1) => [accO 1 ((i7_1.map (fun x : Int => [D.val (.int .u8 x)])).map (·.map .d))]) [0] h (by simp only [go_sem, reduceEqDiff, reduceAdd, reduceSub, reduceMul, reduceLeDiff, reduceLT, Nat.reduceBEq, reduceIte]) ?_
        rintro again ⟨i7_0, i7_1⟩ h
        try dsimp only at h
        refine AW.one ?_
        refine AW.op mixed ?_
        refine AW.cu [0] [(0, .d (slD i64V p0)), (3, accV 0 1 ((i7_1.map (fun x : Int => [D.val (.int .u8 x)])).map (·.map .d))), (4, .d (.val (.int .i64 i2_0))), (5, .d (.val (.int .i64 i7_0))), (18, .d (.val (.bool (decide ((0 : Int) < i7_0)))))] [accO 1 ((i7_1.map (fun x : Int => [D.val (.int .u8 x)])).map (·.map .d))] ?_
        refine AW.ts (decide ((0 : Int) < i7_0)) (fun hb11 => ?_) (fun hb11 => ?_)
        · have h := ifT hb11 h
          refine AW.sk ?_
          refine AW.cu [0] [(0, .d (slD i64V p0)), (3, accV 0 1 ((i7_1.map (fun x : Int => [D.val (.int .u8 x)])).map (·.map .d))), (4, .d (.val (.int .i64 i2_0))), (5, .d (.val (.int .i64 i7_0)))] [accO 1 ((i7_1.map (fun x : Int => [D.val (.int .u8 x)])).map (·.map .d))] ?_
          refine AW.one ?_
          refine obindE h fun oJ13 h hJ13 => ?_
          refine AW.join (S := (List Int)) (fun v12_0 => [(0, .d (slD i64V p0)), (3, accV 0 1 ((v12_0.map (fun x : Int => [D.val (.int .u8 x)])).map (·.map .d))), (4, .d (.val (.int .i64 i2_0))), (5, .d (.val (.int .i64 i7_0)))]) (fun v12_0 => [accO 1 ((v12_0.map (fun x : Int => [D.val (.int .u8 x)])).map (·.map .d))]) (fun x => x = oJ13) ?_ ?_
          · skip
            refine AW.block ?_
            refine AW.one ?_
            refine AW.reg mixed (by kernel_rfl) ?_
            apply obindE h; intro x14 hx15 h
            apply obindE h; intro z16 hx17 h
            apply obindE h; intro z18 hx19 h
            try simp only [go_sem, reduceEqDiff, reduceAdd, reduceSub, reduceMul, reduceLeDiff, reduceLT, Nat.reduceBEq, reduceIte, (idx_some hx15).1, (idx_some hx15).2, bop_quo (P := Tryz.prog) (must_ne hx17), bop_rem (P := Tryz.prog) (must_ne hx19)]
            refine AW.cut [0] [(0, .d (slD i64V p0)), (3, accV 0 1 ((i7_1.map (fun x : Int => [D.val (.int .u8 x)])).map (·.map .d))), (4, .d (.val (.int .i64 i2_0))), (5, .d (.val (.int .i64 i7_0))), (6, .d (.val (.int .i64 ((IntKind.wrap .i64 (x14.tdiv i7_0)).tmod (10 : Int)))))] [accO 1 ((i7_1.map (fun x : Int => [D.val (.int .u8 x)])).map (·.map .d))] (by simp only [go_sem, reduceEqDiff, reduceAdd, reduceSub, reduceMul, reduceLeDiff, reduceLT, Nat.reduceBEq, reduceIte, (idx_some hx15).1, (idx_some hx15).2, bop_quo (P := Tryz.prog) (must_ne hx17), bop_rem (P := Tryz.prog) (must_ne hx19)]) ?_
            refine AW.one ?_
            refine obindE h fun oJ21 h hJ21 => ?_
            refine AW.join (S := Bool) (fun v20_0 => [(0, .d (slD i64V p0)), (3, accV 0 1 ((i7_1.map (fun x : Int => [D.val (.int .u8 x)])).map (·.map .d))), (4, .d (.val (.int .i64 i2_0))), (5, .d (.val (.int .i64 i7_0))), (6, .d (.val (.int .i64 ((IntKind.wrap .i64 (x14.tdiv i7_0)).tmod (10 : Int))))), (34, .d (.val (.bool v20_0)))]) (fun v20_0 => [accO 1 ((i7_1.map (fun x : Int => [D.val (.int .u8 x)])).map (·.map .d))]) (fun x => x = oJ21) ?_ ?_
            · skip
              refine AW.rg mixed ?_
              refine splitK_intro (fun hb22 => ?_) (fun hb22 => ?_)
              · have h := ifT hb22 h
                try simp only [go_sem, reduceEqDiff, reduceAdd, reduceSub, reduceMul, reduceLeDiff, reduceLT, Nat.reduceBEq, reduceIte, hb22]
                refine JoinQ.mk true [0] (Option.some.inj h) (by simp only [go_sem, reduceEqDiff, reduceAdd, reduceSub, reduceMul, reduceLeDiff, reduceLT, Nat.reduceBEq, reduceIte, hb22])
              have h := ifF hb22 h
              try simp only [go_sem, reduceEqDiff, reduceAdd, reduceSub, reduceMul, reduceLeDiff, reduceLT, Nat.reduceBEq, reduceIte, hb22]
              refine JoinQ.mk (decide ((0 : Int) < ((IntKind.wrap .i64 (x14.tdiv i7_0)).tmod (10 : Int)))) [0] (Option.some.inj h) (by simp only [go_sem, reduceEqDiff, reduceAdd, reduceSub, reduceMul, reduceLeDiff, reduceLT, Nat.reduceBEq, reduceIte, hb22])
            rintro v20_0 rfl
            have h := hJ21
            try dsimp only [Out.fin] at h
            refine nz ?_
            refine AW.ts v20_0 (fun hb23 => ?_) (fun hb23 => ?_)
            · have h := ifT hb23 h
              refine AW.reg mixed (by kernel_rfl) ?_
              try simp only [go_sem, reduceEqDiff, reduceAdd, reduceSub, reduceMul, reduceLeDiff, reduceLT, Nat.reduceBEq, reduceIte, cv_int (P := Tryz.prog) Tryz.underlying3 Tryz.underlying5]
              apply obindE h; intro l24 hx25 h
              refine appG hx25 rfl (by simp only [go_sem, reduceEqDiff, reduceAdd, reduceSub, reduceMul, reduceLeDiff, reduceLT, Nat.reduceBEq, reduceIte, cv_int (P := Tryz.prog) Tryz.underlying3 Tryz.underlying5]) (by simp only [go_sem, reduceEqDiff, reduceAdd, reduceSub, reduceMul, reduceLeDiff, reduceLT, Nat.reduceBEq, reduceIte, cv_int (P := Tryz.prog) Tryz.underlying3 Tryz.underlying5]) (by simp only [go_sem, reduceEqDiff, reduceAdd, reduceSub, reduceMul, reduceLeDiff, reduceLT, Nat.reduceBEq, reduceIte, cv_int (P := Tryz.prog) Tryz.underlying3 Tryz.underlying5]) (by simp) ?_
              try simp only [go_sem, reduceEqDiff, reduceAdd, reduceSub, reduceMul, reduceLeDiff, reduceLT, Nat.reduceBEq, reduceIte, cv_int (P := Tryz.prog) Tryz.underlying3 Tryz.underlying5]
              refine JoinQ.mk l24 [6] (Option.some.inj h) (by simp only [go_sem, reduceEqDiff, reduceAdd, reduceSub, reduceMul, reduceLeDiff, reduceLT, Nat.reduceBEq, reduceIte, cv_int (P := Tryz.prog) Tryz.underlying3 Tryz.underlying5])
            have h := ifF hb23 h
            refine AW.sk ?_
            exact JoinQ.ar i7_1 [0] (Option.some.inj h)
          rintro v12_0 rfl
          have h := hJ13
          try dsimp only [Out.fin] at h
          refine nz ?_
          refine AW.reg mixed (by kernel_rfl) ?_
          apply obindE h; intro z26 hx27 h
          try simp only [go_sem, reduceEqDiff, reduceAdd, reduceSub, reduceMul, reduceLeDiff, reduceLT, Nat.reduceBEq, reduceIte, bop_quo (P := Tryz.prog) (must_ne hx27)]
          refine NextQ.mk (IntKind.wrap .i64 (i7_0.tdiv (10 : Int)), v12_0) [0] h (by simp only [go_sem, reduceEqDiff, reduceAdd, reduceSub, reduceMul, reduceLeDiff, reduceLT, Nat.reduceBEq, reduceIte, bop_quo (P := Tryz.prog) (must_ne hx27)])
        have h := ifF hb11 h
        refine AW.ex ?_
        exact JoinQ.ar i7_1 [0] (Option.some.inj h)
      rintro e8_0 rfl
      have h := hJ10
      try dsimp only [Out.fin] at h
      refine nz ?_
      refine AW.cu [0] [(0, .d (slD i64V p0)), (3, accV 0 1 ((e8_0.map (fun x : Int => [D.val (.int .u8 x)])).map (·.map .d))), (4, .d (.val (.int .i64 i2_0)))] [accO 1 ((e8_0.map (fun x : Int => [D.val (.int .u8 x)])).map (·.map .d))] ?_
      refine AW.rg mixed ?_
      exact NextQ.ar (IntKind.wrap .i64 (i2_0 - (1 : Int)), e8_0) [0] h
    have h := ifF hb6 h
    refine AW.ex ?_
    exact JoinQ.ar i2_1 [0] (Option.some.inj h)
  rintro e3_0 rfl
  have h := hJ5
  try dsimp only [Out.fin] at h
  refine nz ?_
  refine AW.cu [0] [(3, accV 0 1 ((e3_0.map (fun x : Int => [D.val (.int .u8 x)])).map (·.map .d)))] [accO 1 ((e3_0.map (fun x : Int => [D.val (.int .u8 x)])).map (·.map .d))] ?_
  refine AW.op mixed ?_
  refine cnvG rfl (by kernel_rfl) (by simp only [go_sem, reduceEqDiff, reduceAdd, reduceSub, reduceMul, reduceLeDiff, reduceLT, Nat.reduceBEq, reduceIte]) ?_
  try simp only [go_sem, reduceEqDiff, reduceAdd, reduceSub, reduceMul, reduceLeDiff, reduceLT, Nat.reduceBEq, reduceIte]
  refine AW.ret ?_
  obtain rfl := Option.some.inj h
  refine nz ?_
  exact .same _
/-! ### isochrone/isochroneref08.letter -/
def r08_letter (K : Nat) (p0 : Int) : Option Bool := if (decide ((97 : Int) ≤ p0)) then
    if (decide (p0 ≤ (122 : Int))) then
      some true
    else
      if (decide ((65 : Int) ≤ p0)) then
        some (decide (p0 ≤ (90 : Int)))
      else
        some false
  else
    if (decide ((65 : Int) ≤ p0)) then
      some (decide (p0 ≤ (90 : Int)))
    else
      some false
set_option maxHeartbeats 4000000 in
theorem r08_letter_ok {K : Nat} {p0 : Int} {r : Bool} (h : r08_letter K p0 = some r) : Cn Tryz.prog 77 [.d (.val (.int .u8 p0))] (.d (.val (.bool r))) := by
  refine Cn.ofA mixed Tryz.func77 rfl Tryz.call77 Tryz.ntmps77 Tryz.results77 (by simp) (by simp only [go_sem, reduceEqDiff, reduceAdd, reduceSub, reduceMul, reduceLeDiff, reduceLT, Nat.reduceBEq, reduceIte]) fun hfit => ?_
  unfold r08_letter at h
  refine AW.kp [] [0] ?_
  refine AW.op mixed ?_
  refine AW.kp [] [0] ?_
  refine AW.op mixed ?_
  refine splitK_intro (fun hb1 => ?_) (fun hb1 => ?_)
  · have h := ifT hb1 h
    try simp only [go_sem, reduceEqDiff, reduceAdd, reduceSub, reduceMul, reduceLeDiff, reduceLT, Nat.reduceBEq, reduceIte, hb1]
    refine splitK_intro (fun hb2 => ?_) (fun hb2 => ?_)
    · have h := ifT hb2 h
      try simp only [go_sem, reduceEqDiff, reduceAdd, reduceSub, reduceMul, reduceLeDiff, reduceLT, Nat.reduceBEq, reduceIte, hb1, hb2]
      refine AW.ret ?_
      obtain rfl := Option.some.inj h
      refine nz ?_
      exact .same _
    have h := ifF hb2 h
    try simp only [go_sem, reduceEqDiff, reduceAdd, reduceSub, reduceMul, reduceLeDiff, reduceLT, Nat.reduceBEq, reduceIte, hb1, hb2]
    refine splitK_intro (fun hb3 => ?_) (fun hb3 => ?_)
    · have h := ifT hb3 h
      try simp only [go_sem, reduceEqDiff, reduceAdd, reduceSub, reduceMul, reduceLeDiff, reduceLT, Nat.reduceBEq, reduceIte, hb1, hb2, hb3]
      refine AW.ret ?_
      obtain rfl := Option.some.inj h
      refine nz ?_
      exact .same _
    have h := ifF hb3 h
    try simp only [go_sem, reduceEqDiff, reduceAdd, reduceSub, reduceMul, reduceLeDiff, reduceLT, Nat.reduceBEq, reduceIte, hb1, hb2, hb3]
    refine AW.ret ?_
    obtain rfl := Option.some.inj h
    refine nz ?_
    exact .same _
  have h := ifF hb1 h
  try simp only [go_sem, reduceEqDiff, reduceAdd, reduceSub, reduceMul, reduceLeDiff, reduceLT, Nat.reduceBEq, reduceIte, hb1]
  refine splitK_intro (fun hb4 => ?_) (fun hb4 => ?_)
  · have h := ifT hb4 h
    try simp only [go_sem, reduceEqDiff, reduceAdd, reduceSub, reduceMul, reduceLeDiff, reduceLT, Nat.reduceBEq, reduceIte, hb1, hb4]
    refine AW.ret ?_
    obtain rfl := Option.some.inj h
    refine nz ?_
    exact .same _
  have h := ifF hb4 h
  try simp only [go_sem, reduceEqDiff, reduceAdd, reduceSub, reduceMul, reduceLeDiff, reduceLT, Nat.reduceBEq, reduceIte, hb1, hb4]
  refine AW.ret ?_
  obtain rfl := Option.some.inj h
  refine nz ?_
  exact .same _
/-! ### isochrone/isochroneref08.Name -/
def r08_Name (K : Nat) (p0 : ByteArray) : Option Bool := ((
    ((
      if ((p0.size : Int) == (0 : Int)) then
        some true
      else
        if (decide ((12 : Int) < (p0.size : Int))) then
          some true
        else
          if (p0.toList == (⟨#[116, 114, 117, 101]⟩ : ByteArray).toList) then
            some true
          else
            if (p0.toList == (⟨#[102, 97, 108, 115, 101]⟩ : ByteArray).toList) then
              some true
            else
              if (p0.toList == (⟨#[102, 111, 114, 97, 108, 108]⟩ : ByteArray).toList) then
                some true
              else
                some (p0.toList == (⟨#[101, 120, 105, 115, 116, 115]⟩ : ByteArray).toList)) : Option Bool).bind (fun v3_0 => 
    if v3_0 then
      outM (
        some false)
    else
      some (.go ()))) : Option (Out Unit _)).bind (Out.fin fun _ => 
  ((iter (S := Int) (R := Out Unit _) K (fun again i11_0 => 
    if (decide (i11_0 < (p0.size : Int))) then
      ((
        ((
          (strAt p0 i11_0).bind fun c20 => 
          (r08_letter K (c20.toNat : Int)).bind fun r22 => 
          if (!r22) then
            if (i11_0 == (0 : Int)) then
              some true
            else
              if (decide ((c20.toNat : Int) < (48 : Int))) then
                some true
              else
                some (decide ((57 : Int) < (c20.toNat : Int)))
          else
            some false) : Option Bool).bind (fun v18_0 => 
        if v18_0 then
          outM (
            outM (
              some false))
        else
          some (.go ()))) : Option (Out Unit _)).bind (Out.fin fun _ => 
      again (IntKind.wrap .i64 (i11_0 + (1 : Int))))
    else
      some (.go ())) (0 : Int)) : Option (Out Unit _)).bind (Out.fin fun _ => 
  some true))
set_option maxHeartbeats 4000000 in
theorem r08_Name_ok {K : Nat} {p0 : ByteArray} {r : Bool} (h : r08_Name K p0 = some r) : Cn Tryz.prog 36 [.d (.val (.string p0))] (.d (.val (.bool r))) := by
  refine Cn.ofA mixed Tryz.func36 rfl Tryz.call36 Tryz.ntmps36 Tryz.results36 (by simp) (by simp only [go_sem, reduceEqDiff, reduceAdd, reduceSub, reduceMul, reduceLeDiff, reduceLT, Nat.reduceBEq, reduceIte]) fun hfit => ?_
  unfold r08_Name at h
  refine AW.kp [] [0] ?_
  refine AW.op mixed ?_
  refine AW.kp [] [0] ?_
  refine AW.one ?_
  refine obindE h fun oJ2 h hJ2 => ?_
  refine AW.join (S := Unit) (fun _ => [(0, .d (.val (.string p0)))]) (fun _ => []) (fun x => oJ2 = .go x) ?_ ?_
  · skip
    refine AW.one ?_
    refine obindE h fun oJ4 h hJ4 => ?_
    refine AW.join (S := Bool) (fun v3_0 => [(0, .d (.val (.string p0))), (27, .d (.val (.bool v3_0)))]) (fun v3_0 => []) (fun x => x = oJ4) ?_ ?_
    · skip
      refine AW.rg mixed ?_
      refine splitK_intro (fun hb5 => ?_) (fun hb5 => ?_)
      · have h := ifT hb5 h
        try simp only [go_sem, reduceEqDiff, reduceAdd, reduceSub, reduceMul, reduceLeDiff, reduceLT, Nat.reduceBEq, reduceIte, hb5]
        refine JoinQ.mk true [] (Option.some.inj h) (by simp only [go_sem, reduceEqDiff, reduceAdd, reduceSub, reduceMul, reduceLeDiff, reduceLT, Nat.reduceBEq, reduceIte, hb5])
      have h := ifF hb5 h
      try simp only [go_sem, reduceEqDiff, reduceAdd, reduceSub, reduceMul, reduceLeDiff, reduceLT, Nat.reduceBEq, reduceIte, hb5]
      refine splitK_intro (fun hb6 => ?_) (fun hb6 => ?_)
      · have h := ifT hb6 h
        try simp only [go_sem, reduceEqDiff, reduceAdd, reduceSub, reduceMul, reduceLeDiff, reduceLT, Nat.reduceBEq, reduceIte, hb5, hb6]
        refine JoinQ.mk true [] (Option.some.inj h) (by simp only [go_sem, reduceEqDiff, reduceAdd, reduceSub, reduceMul, reduceLeDiff, reduceLT, Nat.reduceBEq, reduceIte, hb5, hb6])
      have h := ifF hb6 h
      try simp only [go_sem, reduceEqDiff, reduceAdd, reduceSub, reduceMul, reduceLeDiff, reduceLT, Nat.reduceBEq, reduceIte, hb5, hb6]
      refine splitK_intro (fun hb7 => ?_) (fun hb7 => ?_)
      · have h := ifT hb7 h
        try simp only [go_sem, reduceEqDiff, reduceAdd, reduceSub, reduceMul, reduceLeDiff, reduceLT, Nat.reduceBEq, reduceIte, hb5, hb6, hb7]
        refine JoinQ.mk true [] (Option.some.inj h) (by simp only [go_sem, reduceEqDiff, reduceAdd, reduceSub, reduceMul, reduceLeDiff, reduceLT, Nat.reduceBEq, reduceIte, hb5, hb6, hb7])
      have h := ifF hb7 h
      try simp only [go_sem, reduceEqDiff, reduceAdd, reduceSub, reduceMul, reduceLeDiff, reduceLT, Nat.reduceBEq, reduceIte, hb5, hb6, hb7]
      refine splitK_intro (fun hb8 => ?_) (fun hb8 => ?_)
      · have h := ifT hb8 h
        try simp only [go_sem, reduceEqDiff, reduceAdd, reduceSub, reduceMul, reduceLeDiff, reduceLT, Nat.reduceBEq, reduceIte, hb5, hb6, hb7, hb8]
        refine JoinQ.mk true [] (Option.some.inj h) (by simp only [go_sem, reduceEqDiff, reduceAdd, reduceSub, reduceMul, reduceLeDiff, reduceLT, Nat.reduceBEq, reduceIte, hb5, hb6, hb7, hb8])
      have h := ifF hb8 h
      try simp only [go_sem, reduceEqDiff, reduceAdd, reduceSub, reduceMul, reduceLeDiff, reduceLT, Nat.reduceBEq, reduceIte, hb5, hb6, hb7, hb8]
      refine splitK_intro (fun hb9 => ?_) (fun hb9 => ?_)
      · have h := ifT hb9 h
        try simp only [go_sem, reduceEqDiff, reduceAdd, reduceSub, reduceMul, reduceLeDiff, reduceLT, Nat.reduceBEq, reduceIte, hb5, hb6, hb7, hb8, hb9]
        refine JoinQ.mk true [] (Option.some.inj h) (by simp only [go_sem, reduceEqDiff, reduceAdd, reduceSub, reduceMul, reduceLeDiff, reduceLT, Nat.reduceBEq, reduceIte, hb5, hb6, hb7, hb8, hb9])
      have h := ifF hb9 h
      try simp only [go_sem, reduceEqDiff, reduceAdd, reduceSub, reduceMul, reduceLeDiff, reduceLT, Nat.reduceBEq, reduceIte, hb5, hb6, hb7, hb8, hb9]
      refine JoinQ.mk (p0.toList == (⟨#[101, 120, 105, 115, 116, 115]⟩ : ByteArray).toList) [] (Option.some.inj h) (by simp only [go_sem, reduceEqDiff, reduceAdd, reduceSub, reduceMul, reduceLeDiff, reduceLT, Nat.reduceBEq, reduceIte, hb5, hb6, hb7, hb8, hb9])
    rintro v3_0 rfl
    have h := hJ4
    try dsimp only [Out.fin] at h
    refine nz ?_
    refine AW.ts v3_0 (fun hb10 => ?_) (fun hb10 => ?_)
    · have h := ifT hb10 h
      refine AW.op mixed ?_
      refine AW.ret ?_
      obtain ⟨_, h, ho⟩ := outM_some h
      rw [ho, Out.fin_out] at hJ2
      have h := h.trans hJ2
      obtain rfl := Option.some.inj h
      refine nz ?_
      exact .same _
    have h := ifF hb10 h
    refine AW.sk ?_
    exact JoinQ.ar () [] (Option.some.inj h).symm
  rintro ⟨⟩ rfl
  have h := hJ2
  try dsimp only [Out.fin] at h
  refine nz ?_
  refine AW.one ?_
  refine AW.op mixed ?_
  refine AW.kp [] [0, 3] ?_
  refine obindE h fun oJ14 h hJ14 => ?_
  refine AW.join (S := Unit) (fun _ => []) (fun _ => []) (fun x => oJ14 = .go x) ?_ ?_
  · refine AW.block ?_
    refine AW.iter (S := Int) (fun i11_0 => [(0, .d (.val (.string p0))), (3, .d (.val (.int .i64 i11_0)))]) (fun i11_0 => []) [] h (by simp only [go_sem, reduceEqDiff, reduceAdd, reduceSub, reduceMul, reduceLeDiff, reduceLT, Nat.reduceBEq, reduceIte]) ?_
    rintro again i11_0 h
    try dsimp only at h
    refine AW.one ?_
    refine AW.op mixed ?_
    refine AW.kp [] [0, 3, 31] ?_
    refine AW.ts (decide (i11_0 < (p0.size : Int))) (fun hb15 => ?_) (fun hb15 => ?_)
    · have h := ifT hb15 h
      refine AW.sk ?_
      refine AW.kp [] [0, 3] ?_
      refine AW.one ?_
      refine obindE h fun oJ17 h hJ17 => ?_
      refine AW.join (S := Unit) (fun _ => [(0, .d (.val (.string p0))), (3, .d (.val (.int .i64 i11_0)))]) (fun _ => []) (fun x => oJ17 = .go x) ?_ ?_
      · skip
        refine AW.block ?_
        refine AW.one ?_
        refine obindE h fun oJ19 h hJ19 => ?_
        refine AW.join (S := Bool) (fun v18_0 => [(0, .d (.val (.string p0))), (3, .d (.val (.int .i64 i11_0))), (54, .d (.val (.bool v18_0)))]) (fun v18_0 => []) (fun x => x = oJ19) ?_ ?_
        · skip
          refine AW.reg mixed (by kernel_rfl) ?_
          apply obindE h; intro c20 hx21 h
          try simp only [go_sem, reduceEqDiff, reduceAdd, reduceSub, reduceMul, reduceLeDiff, reduceLT, Nat.reduceBEq, reduceIte, hx21]
          apply obindE h; intro r22 hx23 h
          have hc := nx (r08_letter_ok (h := hx23))
          refine callK_pure hc (by simp only [go_sem, reduceEqDiff, reduceAdd, reduceSub, reduceMul, reduceLeDiff, reduceLT, Nat.reduceBEq, reduceIte]) ?_
          try simp only [go_sem, reduceEqDiff, reduceAdd, reduceSub, reduceMul, reduceLeDiff, reduceLT, Nat.reduceBEq, reduceIte, hx21]
          refine splitK_intro (fun hb24 => ?_) (fun hb24 => ?_)
          · have h := ifT hb24 h
            try simp only [go_sem, reduceEqDiff, reduceAdd, reduceSub, reduceMul, reduceLeDiff, reduceLT, Nat.reduceBEq, reduceIte, hx21, hb24]
            refine splitK_intro (fun hb25 => ?_) (fun hb25 => ?_)
            · have h := ifT hb25 h
              try simp only [go_sem, reduceEqDiff, reduceAdd, reduceSub, reduceMul, reduceLeDiff, reduceLT, Nat.reduceBEq, reduceIte, hx21, hb24, hb25]
              refine JoinQ.mk true [] (Option.some.inj h) (by simp only [go_sem, reduceEqDiff, reduceAdd, reduceSub, reduceMul, reduceLeDiff, reduceLT, Nat.reduceBEq, reduceIte, hx21, hb24, hb25])
            have h := ifF hb25 h
            try simp only [go_sem, reduceEqDiff, reduceAdd, reduceSub, reduceMul, reduceLeDiff, reduceLT, Nat.reduceBEq, reduceIte, hx21, hb24, hb25]
            refine splitK_intro (fun hb26 => ?_) (fun hb26 => ?_)
            · have h := ifT hb26 h
              try simp only [go_sem, reduceEqDiff, reduceAdd, reduceSub, reduceMul, reduceLeDiff, reduceLT, Nat.reduceBEq, reduceIte, hx21, hb24, hb25, hb26]
              refine JoinQ.mk true [] (Option.some.inj h) (by simp only [go_sem, reduceEqDiff, reduceAdd, reduceSub, reduceMul, reduceLeDiff, reduceLT, Nat.reduceBEq, reduceIte, hx21, hb24, hb25, hb26])
            have h := ifF hb26 h
            try simp only [go_sem, reduceEqDiff, reduceAdd, reduceSub, reduceMul, reduceLeDiff, reduceLT, Nat.reduceBEq, reduceIte, hx21, hb24, hb25, hb26]
            refine JoinQ.mk (decide ((57 : Int) < (c20.toNat : Int))) [] (Option.some.inj h) (by simp only [go_sem, reduceEqDiff, reduceAdd, reduceSub, reduceMul, reduceLeDiff, reduceLT, Nat.reduceBEq, reduceIte, hx21, hb24, hb25, hb26])
          have h := ifF hb24 h
          try simp only [go_sem, reduceEqDiff, reduceAdd, reduceSub, reduceMul, reduceLeDiff, reduceLT, Nat.reduceBEq, reduceIte, hx21, hb24]
          refine JoinQ.mk false [] (Option.some.inj h) (by simp only [go_sem, reduceEqDiff, reduceAdd, reduceSub, reduceMul, reduceLeDiff, reduceLT, Nat.reduceBEq, reduceIte, hx21, hb24])
        rintro v18_0 rfl
        have h := hJ19
        try dsimp only [Out.fin] at h
        refine nz ?_
        refine AW.ts v18_0 (fun hb27 => ?_) (fun hb27 => ?_)
        · have h := ifT hb27 h
          refine AW.op mixed ?_
          refine AW.ret ?_
          obtain ⟨_, h, ho⟩ := outM_some h
          rw [ho, Out.fin_out] at hJ17
          have h := h.trans hJ17
          obtain ⟨_, h, ho⟩ := outM_some h
          rw [ho, Out.fin_out] at hJ14
          have h := h.trans hJ14
          obtain rfl := Option.some.inj h
          refine nz ?_
          exact .same _
        have h := ifF hb27 h
        refine AW.sk ?_
        exact JoinQ.ar () [] (Option.some.inj h).symm
      rintro ⟨⟩ rfl
      have h := hJ17
      try dsimp only [Out.fin] at h
      refine nz ?_
      refine AW.rg mixed ?_
      exact NextQ.ar (IntKind.wrap .i64 (i11_0 + (1 : Int))) [] h
    have h := ifF hb15 h
    refine AW.ex ?_
    exact JoinQ.ar () [] (Option.some.inj h).symm
  rintro ⟨⟩ rfl
  have h := hJ14
  try dsimp only [Out.fin] at h
  refine nz ?_
  refine AW.kp [] [] ?_
  refine AW.op mixed ?_
  refine AW.ret ?_
  obtain rfl := Option.some.inj h
  refine nz ?_
  exact .same _
/-! ### isochrone/isochroneref08.Levels -/
def r08_Levels_body (K : Nat) (self101 : NodeA → Option Int) (p0 : NodeA) : Option Int := ((iter (S := Int × Int) (R := Int) K (fun again (i1_0, i1_1) => 
    if (decide (i1_1 < (p0.kids.length : Int))) then
      (idx p0.kids i1_1).bind fun x6 => 
      (self101 (x6)).bind fun r8 => 
      again ((if r8 > i1_0 then r8 else i1_0), IntKind.wrap .i64 (i1_1 + (1 : Int)))
    else
      some i1_0) ((0 : Int), (0 : Int))) : Option Int).bind (fun e2_0 => 
  some (IntKind.wrap .i64 (e2_0 + (1 : Int))))
set_option maxHeartbeats 4000000 in
theorem r08_Levels_step (K : Nat) (self101 : NodeA → Option Int) (hself101 : ∀ (q : NodeA) (r : Int), self101 q = some r → Cn Tryz.prog 101 [aggV q.enc] (.d (.val (.int .i64 r)))) (p0 : NodeA) (r : Int) (h : r08_Levels_body K self101 p0 = some r) : Cn Tryz.prog 101 [aggV p0.enc] (.d (.val (.int .i64 r))) := by
  refine Cn.ofA mixed Tryz.func101 rfl Tryz.call101 Tryz.ntmps101 Tryz.results101 (by simp) (by simp only [go_sem, reduceEqDiff, reduceAdd, reduceSub, reduceMul, reduceLeDiff, reduceLT, Nat.reduceBEq, reduceIte]) fun hfit => ?_
  unfold r08_Levels_body at h
  refine AW.kp [] [0] ?_
  refine AW.op mixed ?_
  refine AW.kp [0] [1] ?_
  refine AW.op mixed ?_
  refine AW.kp [0] [1, 3] ?_
  refine AW.one ?_
  refine AW.op mixed ?_
  refine AW.kp [0] [1, 3, 4] ?_
  refine obindE h fun oJ4 h hJ4 => ?_
  refine AW.join (S := Int) (fun e2_0 => [(3, .d (.val (.int .i64 e2_0)))]) (fun e2_0 => []) (fun x => x = oJ4) ?_ ?_
  · refine AW.block ?_
    refine AW.iter (S := Int × Int) (fun (i1_0, i1_1) => [(1, .ptr 0 6 0 0), (3, .d (.val (.int .i64 i1_0))), (4, .d (.val (.int .i64 i1_1)))]) (fun (i1_0, i1_1) => [some ⟨6, [[.d (.val (.int .i64 p0.op)), .d (.val (.string p0.name)), .d (.val (.bool p0.num.neg)), .d (slD u32V p0.num.num), .d (slD u32V p0.num.den), .d (slD NodeA.enc p0.kids)]]⟩]) [0] h (by simp only [go_sem, reduceEqDiff, reduceAdd, reduceSub, reduceMul, reduceLeDiff, reduceLT, Nat.reduceBEq, reduceIte]) ?_
    rintro again ⟨i1_0, i1_1⟩ h
    try dsimp only at h
    refine AW.one ?_
    refine AW.op mixed ?_
    refine AW.kp [0] [1, 3, 4, 9] ?_
    refine AW.ts (decide (i1_1 < (p0.kids.length : Int))) (fun hb5 => ?_) (fun hb5 => ?_)
    · have h := ifT hb5 h
      refine AW.sk ?_
      refine AW.kp [0] [1, 3, 4] ?_
      refine AW.one ?_
      refine AW.block ?_
      refine AW.reg mixed (by kernel_rfl) ?_
      apply obindE h; intro x6 hx7 h
      try simp only [go_sem, reduceEqDiff, reduceAdd, reduceSub, reduceMul, reduceLeDiff, reduceLT, Nat.reduceBEq, reduceIte, (idx_some hx7).1, (idx_some hx7).2]
      apply obindE h; intro r8 hx9 h
      have hc := nx (hself101 _ _ hx9)
      refine callK_pure hc (by simp only [go_sem, reduceEqDiff, reduceAdd, reduceSub, reduceMul, reduceLeDiff, reduceLT, Nat.reduceBEq, reduceIte]) ?_
      try simp only [go_sem, reduceEqDiff, reduceAdd, reduceSub, reduceMul, reduceLeDiff, reduceLT, Nat.reduceBEq, reduceIte, (idx_some hx7).1, (idx_some hx7).2]
      refine AW.cut [0] [(1, .ptr 0 6 0 0), (3, .d (.val (.int .i64 (if r8 > i1_0 then r8 else i1_0)))), (4, .d (.val (.int .i64 i1_1)))] [some ⟨6, [[.d (.val (.int .i64 p0.op)), .d (.val (.string p0.name)), .d (.val (.bool p0.num.neg)), .d (slD u32V p0.num.num), .d (slD u32V p0.num.den), .d (slD NodeA.enc p0.kids)]]⟩] (by simp only [go_sem, reduceEqDiff, reduceAdd, reduceSub, reduceMul, reduceLeDiff, reduceLT, Nat.reduceBEq, reduceIte, (idx_some hx7).1, (idx_some hx7).2]) ?_
      refine AW.rg mixed ?_
      exact NextQ.ar ((if r8 > i1_0 then r8 else i1_0), IntKind.wrap .i64 (i1_1 + (1 : Int))) [0] h
    have h := ifF hb5 h
    refine AW.ex ?_
    exact JoinQ.ar i1_0 [] (Option.some.inj h)
  rintro e2_0 rfl
  have h := hJ4
  try dsimp only [Out.fin] at h
  refine nz ?_
  refine AW.kp [] [3] ?_
  refine AW.op mixed ?_
  refine AW.ret ?_
  obtain rfl := Option.some.inj h
  refine nz ?_
  exact .same _
def r08_Levels (K : Nat) (p0 : NodeA) : Option Int := iter K (fun self q => r08_Levels_body K self q) p0
theorem key_r08_Levels {K : Nat} (k : Nat) : (∀ (q : NodeA) (r : Int), iter k (fun self q => r08_Levels_body K self q) q = some r → Cn Tryz.prog 101 [aggV q.enc] (.d (.val (.int .i64 r)))) := by
  induction k with
  | zero => exact fun q r h => by cases h
  | succ k ih => exact fun q r h => r08_Levels_step K _ ih q r h
theorem r08_Levels_ok {K : Nat} {p0 : NodeA} {r : Int} (h : r08_Levels K p0 = some r) : Cn Tryz.prog 101 [aggV p0.enc] (.d (.val (.int .i64 r))) := (key_r08_Levels K) p0 r h
/-! ### isochrone/isochroneref08.Sort -/
def r08_Sort (K : Nat) (p0 : Int) : Option Int := ((
    if (decide ((1 : Int) ≤ p0)) then
      some (decide (p0 ≤ (13 : Int)))
    else
      some false) : Option Bool).bind (fun v1_0 => 
  if v1_0 then
    some (1 : Int)
  else
    ((
      if (decide ((20 : Int) ≤ p0)) then
        some (decide (p0 ≤ (39 : Int)))
      else
        some false) : Option Bool).bind (fun v5_0 => 
    if v5_0 then
      some (2 : Int)
    else
      ((
        if (p0 == (55 : Int)) then
          some true
        else
          some (p0 == (56 : Int))) : Option Bool).bind (fun v9_0 => 
      if v9_0 then
        some (4 : Int)
      else
        ((
          if (decide ((50 : Int) ≤ p0)) then
            some (decide (p0 ≤ (62 : Int)))
          else
            some false) : Option Bool).bind (fun v13_0 => 
        if v13_0 then
          some (3 : Int)
        else
          some (0 : Int)))))
set_option maxHeartbeats 4000000 in
theorem r08_Sort_ok {K : Nat} {p0 : Int} {r : Int} (h : r08_Sort K p0 = some r) : Cn Tryz.prog 18 [.d (.val (.int .i64 p0))] (.d (.val (.int .i64 r))) := by
  refine Cn.ofA mixed Tryz.func18 rfl Tryz.call18 Tryz.ntmps18 Tryz.results18 (by simp) (by simp only [go_sem, reduceEqDiff, reduceAdd, reduceSub, reduceMul, reduceLeDiff, reduceLT, Nat.reduceBEq, reduceIte]) fun hfit => ?_
  unfold r08_Sort at h
  refine AW.kp [] [0] ?_
  refine AW.op mixed ?_
  refine AW.kp [] [0] ?_
  refine AW.one ?_
  refine AW.block ?_
  refine AW.one ?_
  refine obindE h fun oJ2 h hJ2 => ?_
  refine AW.join (S := Bool) (fun v1_0 => [(0, .d (.val (.int .i64 p0))), (3, .d (.val (.bool v1_0)))]) (fun v1_0 => []) (fun x => x = oJ2) ?_ ?_
  · skip
    refine AW.rg mixed ?_
    refine splitK_intro (fun hb3 => ?_) (fun hb3 => ?_)
    · have h := ifT hb3 h
      try simp only [go_sem, reduceEqDiff, reduceAdd, reduceSub, reduceMul, reduceLeDiff, reduceLT, Nat.reduceBEq, reduceIte, hb3]
      refine JoinQ.mk (decide (p0 ≤ (13 : Int))) [] (Option.some.inj h) (by simp only [go_sem, reduceEqDiff, reduceAdd, reduceSub, reduceMul, reduceLeDiff, reduceLT, Nat.reduceBEq, reduceIte, hb3])
    have h := ifF hb3 h
    try simp only [go_sem, reduceEqDiff, reduceAdd, reduceSub, reduceMul, reduceLeDiff, reduceLT, Nat.reduceBEq, reduceIte, hb3]
    refine JoinQ.mk false [] (Option.some.inj h) (by simp only [go_sem, reduceEqDiff, reduceAdd, reduceSub, reduceMul, reduceLeDiff, reduceLT, Nat.reduceBEq, reduceIte, hb3])
  rintro v1_0 rfl
  have h := hJ2
  try dsimp only [Out.fin] at h
  refine nz ?_
  refine AW.ts v1_0 (fun hb4 => ?_) (fun hb4 => ?_)
  · have h := ifT hb4 h
    refine AW.op mixed ?_
    refine AW.ret ?_
    obtain rfl := Option.some.inj h
    refine nz ?_
    exact .same _
  have h := ifF hb4 h
  refine AW.one ?_
  refine obindE h fun oJ6 h hJ6 => ?_
  refine AW.join (S := Bool) (fun v5_0 => [(0, .d (.val (.int .i64 p0))), (10, .d (.val (.bool v5_0)))]) (fun v5_0 => []) (fun x => x = oJ6) ?_ ?_
  · skip
    refine AW.rg mixed ?_
    refine splitK_intro (fun hb7 => ?_) (fun hb7 => ?_)
    · have h := ifT hb7 h
      try simp only [go_sem, reduceEqDiff, reduceAdd, reduceSub, reduceMul, reduceLeDiff, reduceLT, Nat.reduceBEq, reduceIte, hb7]
      refine JoinQ.mk (decide (p0 ≤ (39 : Int))) [] (Option.some.inj h) (by simp only [go_sem, reduceEqDiff, reduceAdd, reduceSub, reduceMul, reduceLeDiff, reduceLT, Nat.reduceBEq, reduceIte, hb7])
    have h := ifF hb7 h
    try simp only [go_sem, reduceEqDiff, reduceAdd, reduceSub, reduceMul, reduceLeDiff, reduceLT, Nat.reduceBEq, reduceIte, hb7]
    refine JoinQ.mk false [] (Option.some.inj h) (by simp only [go_sem, reduceEqDiff, reduceAdd, reduceSub, reduceMul, reduceLeDiff, reduceLT, Nat.reduceBEq, reduceIte, hb7])
  rintro v5_0 rfl
  have h := hJ6
  try dsimp only [Out.fin] at h
  refine nz ?_
  refine AW.ts v5_0 (fun hb8 => ?_) (fun hb8 => ?_)
  · have h := ifT hb8 h
    refine AW.op mixed ?_
    refine AW.ret ?_
    obtain rfl := Option.some.inj h
    refine nz ?_
    exact .same _
  have h := ifF hb8 h
  refine AW.one ?_
  refine obindE h fun oJ10 h hJ10 => ?_
  refine AW.join (S := Bool) (fun v9_0 => [(0, .d (.val (.int .i64 p0))), (17, .d (.val (.bool v9_0)))]) (fun v9_0 => []) (fun x => x = oJ10) ?_ ?_
  · skip
    refine AW.rg mixed ?_
    refine splitK_intro (fun hb11 => ?_) (fun hb11 => ?_)
    · have h := ifT hb11 h
      try simp only [go_sem, reduceEqDiff, reduceAdd, reduceSub, reduceMul, reduceLeDiff, reduceLT, Nat.reduceBEq, reduceIte, hb11]
      refine JoinQ.mk true [] (Option.some.inj h) (by simp only [go_sem, reduceEqDiff, reduceAdd, reduceSub, reduceMul, reduceLeDiff, reduceLT, Nat.reduceBEq, reduceIte, hb11])
    have h := ifF hb11 h
    try simp only [go_sem, reduceEqDiff, reduceAdd, reduceSub, reduceMul, reduceLeDiff, reduceLT, Nat.reduceBEq, reduceIte, hb11]
    refine JoinQ.mk (p0 == (56 : Int)) [] (Option.some.inj h) (by simp only [go_sem, reduceEqDiff, reduceAdd, reduceSub, reduceMul, reduceLeDiff, reduceLT, Nat.reduceBEq, reduceIte, hb11])
  rintro v9_0 rfl
  have h := hJ10
  try dsimp only [Out.fin] at h
  refine nz ?_
  refine AW.ts v9_0 (fun hb12 => ?_) (fun hb12 => ?_)
  · have h := ifT hb12 h
    refine AW.op mixed ?_
    refine AW.ret ?_
    obtain rfl := Option.some.inj h
    refine nz ?_
    exact .same _
  have h := ifF hb12 h
  refine AW.one ?_
  refine obindE h fun oJ14 h hJ14 => ?_
  refine AW.join (S := Bool) (fun v13_0 => [(24, .d (.val (.bool v13_0)))]) (fun v13_0 => []) (fun x => x = oJ14) ?_ ?_
  · skip
    refine AW.rg mixed ?_
    refine splitK_intro (fun hb15 => ?_) (fun hb15 => ?_)
    · have h := ifT hb15 h
      try simp only [go_sem, reduceEqDiff, reduceAdd, reduceSub, reduceMul, reduceLeDiff, reduceLT, Nat.reduceBEq, reduceIte, hb15]
      refine JoinQ.mk (decide (p0 ≤ (62 : Int))) [] (Option.some.inj h) (by simp only [go_sem, reduceEqDiff, reduceAdd, reduceSub, reduceMul, reduceLeDiff, reduceLT, Nat.reduceBEq, reduceIte, hb15])
    have h := ifF hb15 h
    try simp only [go_sem, reduceEqDiff, reduceAdd, reduceSub, reduceMul, reduceLeDiff, reduceLT, Nat.reduceBEq, reduceIte, hb15]
    refine JoinQ.mk false [] (Option.some.inj h) (by simp only [go_sem, reduceEqDiff, reduceAdd, reduceSub, reduceMul, reduceLeDiff, reduceLT, Nat.reduceBEq, reduceIte, hb15])
  rintro v13_0 rfl
  have h := hJ14
  try dsimp only [Out.fin] at h
  refine nz ?_
  refine AW.ts v13_0 (fun hb16 => ?_) (fun hb16 => ?_)
  · have h := ifT hb16 h
    refine AW.op mixed ?_
    refine AW.ret ?_
    obtain rfl := Option.some.inj h
    refine nz ?_
    exact .same _
  have h := ifF hb16 h
  refine AW.sk ?_
  refine AW.kp [] [] ?_
  refine AW.op mixed ?_
  refine AW.ret ?_
  obtain rfl := Option.some.inj h
  refine nz ?_
  exact .same _
/-! ### isochrone/isochroneref08.Natural -/
def r08_Natural (K : Nat) (p0 : RatA) (p1 : Int) : Option Int := if ((p0.num.length : Int) == (0 : Int)) then
    some (0 : Int)
  else
    ((
      ((
        if (decide ((1 : Int) < (p0.num.length : Int))) then
          some true
        else
          (idx p0.num (0 : Int)).bind fun x7 => 
          some (decide (p1 < (IntKind.wrap .i64 x7)))) : Option Bool).bind (fun v4_0 => 
      if v4_0 then
        outM (
          some (-1 : Int))
      else
        some (.go ()))) : Option (Out Unit _)).bind (Out.fin fun _ => 
    (idx p0.num (0 : Int)).bind fun x10 => 
    some (IntKind.wrap .i64 x10))
set_option maxHeartbeats 4000000 in
theorem r08_Natural_ok {K : Nat} {p0 : RatA} {p1 : Int} {r : Int} (h : r08_Natural K p0 p1 = some r) : Cn Tryz.prog 118 [aggV p0.enc, .d (.val (.int .i64 p1))] (.d (.val (.int .i64 r))) := by
  refine Cn.ofA mixed Tryz.func118 rfl Tryz.call118 Tryz.ntmps118 Tryz.results118 (by simp) (by simp only [go_sem, reduceEqDiff, reduceAdd, reduceSub, reduceMul, reduceLeDiff, reduceLT, Nat.reduceBEq, reduceIte]) fun hfit => ?_
  unfold r08_Natural at h
  refine AW.kp [] [0, 1] ?_
  refine AW.op mixed ?_
  refine AW.kp [0] [1, 2] ?_
  refine AW.one ?_
  refine AW.op mixed ?_
  refine AW.kp [0] [1, 2, 8] ?_
  refine AW.ts ((p0.num.length : Int) == (0 : Int)) (fun hb1 => ?_) (fun hb1 => ?_)
  · have h := ifT hb1 h
    refine AW.op mixed ?_
    refine AW.ret ?_
    obtain rfl := Option.some.inj h
    refine nz ?_
    exact .same _
  have h := ifF hb1 h
  refine AW.sk ?_
  refine AW.kp [0] [1, 2] ?_
  refine AW.one ?_
  refine obindE h fun oJ3 h hJ3 => ?_
  refine AW.join (S := Unit) (fun _ => [(2, .ptr 0 3 0 0)]) (fun _ => [some ⟨3, [[.d (.val (.bool p0.neg)), .d (slD u32V p0.num), .d (slD u32V p0.den)]]⟩]) (fun x => oJ3 = .go x) ?_ ?_
  · skip
    refine AW.one ?_
    refine obindE h fun oJ5 h hJ5 => ?_
    refine AW.join (S := Bool) (fun v4_0 => [(2, .ptr 0 3 0 0), (21, .d (.val (.bool v4_0)))]) (fun v4_0 => [some ⟨3, [[.d (.val (.bool p0.neg)), .d (slD u32V p0.num), .d (slD u32V p0.den)]]⟩]) (fun x => x = oJ5) ?_ ?_
    · skip
      refine AW.rg mixed ?_
      refine splitK_intro (fun hb6 => ?_) (fun hb6 => ?_)
      · have h := ifT hb6 h
        try simp only [go_sem, reduceEqDiff, reduceAdd, reduceSub, reduceMul, reduceLeDiff, reduceLT, Nat.reduceBEq, reduceIte, hb6]
        refine JoinQ.mk true [0] (Option.some.inj h) (by simp only [go_sem, reduceEqDiff, reduceAdd, reduceSub, reduceMul, reduceLeDiff, reduceLT, Nat.reduceBEq, reduceIte, hb6])
      have h := ifF hb6 h
      apply obindE h; intro x7 hx8 h
      try simp only [go_sem, reduceEqDiff, reduceAdd, reduceSub, reduceMul, reduceLeDiff, reduceLT, Nat.reduceBEq, reduceIte, hb6, (idx_some hx8).1, (idx_some hx8).2, cv_int (P := Tryz.prog) Tryz.underlying99 Tryz.underlying2]
      refine JoinQ.mk (decide (p1 < (IntKind.wrap .i64 x7))) [0] (Option.some.inj h) (by simp only [go_sem, reduceEqDiff, reduceAdd, reduceSub, reduceMul, reduceLeDiff, reduceLT, Nat.reduceBEq, reduceIte, hb6, (idx_some hx8).1, (idx_some hx8).2, cv_int (P := Tryz.prog) Tryz.underlying99 Tryz.underlying2])
    rintro v4_0 rfl
    have h := hJ5
    try dsimp only [Out.fin] at h
    refine nz ?_
    refine AW.ts v4_0 (fun hb9 => ?_) (fun hb9 => ?_)
    · have h := ifT hb9 h
      refine AW.op mixed ?_
      refine AW.ret ?_
      obtain ⟨_, h, ho⟩ := outM_some h
      rw [ho, Out.fin_out] at hJ3
      have h := h.trans hJ3
      obtain rfl := Option.some.inj h
      refine nz ?_
      exact .same _
    have h := ifF hb9 h
    refine AW.sk ?_
    exact JoinQ.ar () [0] (Option.some.inj h).symm
  rintro ⟨⟩ rfl
  have h := hJ3
  try dsimp only [Out.fin] at h
  refine nz ?_
  refine AW.one ?_
  refine AW.reg mixed (by kernel_rfl) ?_
  apply obindE h; intro x10 hx11 h
  try simp only [go_sem, reduceEqDiff, reduceAdd, reduceSub, reduceMul, reduceLeDiff, reduceLT, Nat.reduceBEq, reduceIte, (idx_some hx11).1, (idx_some hx11).2, cv_int (P := Tryz.prog) Tryz.underlying99 Tryz.underlying3]
  refine AW.ret ?_
  obtain rfl := Option.some.inj h
  refine nz ?_
  exact .same _
/-! ### isochrone/isochroneref08.differential -/
def r08_differential_body (K : Nat) (self119 : NodeA → Option Bool) (p0 : NodeA) : Option Bool := ((
    if (p0.op == (20 : Int)) then
      some true
    else
      if (p0.op == (21 : Int)) then
        some true
      else
        if (decide ((22 : Int) ≤ p0.op)) then
          if (decide (p0.op ≤ (27 : Int))) then
            some true
          else
            if (p0.op == (37 : Int)) then
              some true
            else
              some (p0.op == (38 : Int))
        else
          if (p0.op == (37 : Int)) then
            some true
          else
            some (p0.op == (38 : Int))) : Option Bool).bind (fun v1_0 => 
  if v1_0 then
    some true
  else
    ((
      if (p0.op == (29 : Int)) then
        some true
      else
        some (p0.op == (30 : Int))) : Option Bool).bind (fun v10_0 => 
    if v10_0 then
      ((iter (S := Int) (R := Out Unit _) K (fun again i14_0 => 
        if (decide (i14_0 < (p0.kids.length : Int))) then
          (idx p0.kids i14_0).bind fun x19 => 
          (self119 (x19)).bind fun r21 => 
          if (!r21) then
            outM (
              some false)
          else
            again (IntKind.wrap .i64 (i14_0 + (1 : Int)))
        else
          some (.go ())) (0 : Int)) : Option (Out Unit _)).bind (Out.fin fun _ => 
      some true)
    else
      some false))
set_option maxHeartbeats 4000000 in
theorem r08_differential_step (K : Nat) (self119 : NodeA → Option Bool) (hself119 : ∀ (q : NodeA) (r : Bool), self119 q = some r → Cn Tryz.prog 119 [aggV q.enc] (.d (.val (.bool r)))) (p0 : NodeA) (r : Bool) (h : r08_differential_body K self119 p0 = some r) : Cn Tryz.prog 119 [aggV p0.enc] (.d (.val (.bool r))) := by
  refine Cn.ofA mixed Tryz.func119 rfl Tryz.call119 Tryz.ntmps119 Tryz.results119 (by simp) (by simp only [go_sem, reduceEqDiff, reduceAdd, reduceSub, reduceMul, reduceLeDiff, reduceLT, Nat.reduceBEq, reduceIte]) fun hfit => ?_
  unfold r08_differential_body at h
  refine AW.kp [] [0] ?_
  refine AW.op mixed ?_
  refine AW.kp [0] [1] ?_
  refine AW.one ?_
  refine AW.block ?_
  refine AW.one ?_
  refine obindE h fun oJ2 h hJ2 => ?_
  refine AW.join (S := Bool) (fun v1_0 => [(1, .ptr 0 6 0 0), (4, .d (.val (.bool v1_0)))]) (fun v1_0 => [some ⟨6, [[.d (.val (.int .i64 p0.op)), .d (.val (.string p0.name)), .d (.val (.bool p0.num.neg)), .d (slD u32V p0.num.num), .d (slD u32V p0.num.den), .d (slD NodeA.enc p0.kids)]]⟩]) (fun x => x = oJ2) ?_ ?_
  · skip
    refine AW.rg mixed ?_
    refine splitK_intro (fun hb3 => ?_) (fun hb3 => ?_)
    · have h := ifT hb3 h
      try simp only [go_sem, reduceEqDiff, reduceAdd, reduceSub, reduceMul, reduceLeDiff, reduceLT, Nat.reduceBEq, reduceIte, hb3]
      refine JoinQ.mk true [0] (Option.some.inj h) (by simp only [go_sem, reduceEqDiff, reduceAdd, reduceSub, reduceMul, reduceLeDiff, reduceLT, Nat.reduceBEq, reduceIte, hb3])
    have h := ifF hb3 h
    try simp only [go_sem, reduceEqDiff, reduceAdd, reduceSub, reduceMul, reduceLeDiff, reduceLT, Nat.reduceBEq, reduceIte, hb3]
    refine splitK_intro (fun hb4 => ?_) (fun hb4 => ?_)
    · have h := ifT hb4 h
      try simp only [go_sem, reduceEqDiff, reduceAdd, reduceSub, reduceMul, reduceLeDiff, reduceLT, Nat.reduceBEq, reduceIte, hb3, hb4]
      refine JoinQ.mk true [0] (Option.some.inj h) (by simp only [go_sem, reduceEqDiff, reduceAdd, reduceSub, reduceMul, reduceLeDiff, reduceLT, Nat.reduceBEq, reduceIte, hb3, hb4])
    have h := ifF hb4 h
    try simp only [go_sem, reduceEqDiff, reduceAdd, reduceSub, reduceMul, reduceLeDiff, reduceLT, Nat.reduceBEq, reduceIte, hb3, hb4]
    refine splitK_intro (fun hb5 => ?_) (fun hb5 => ?_)
    · have h := ifT hb5 h
      try simp only [go_sem, reduceEqDiff, reduceAdd, reduceSub, reduceMul, reduceLeDiff, reduceLT, Nat.reduceBEq, reduceIte, hb3, hb4, hb5]
      refine splitK_intro (fun hb6 => ?_) (fun hb6 => ?_)
      · have h := ifT hb6 h
        try simp only [go_sem, reduceEqDiff, reduceAdd, reduceSub, reduceMul, reduceLeDiff, reduceLT, Nat.reduceBEq, reduceIte, hb3, hb4, hb5, hb6]
        refine JoinQ.mk true [0] (Option.some.inj h) (by simp only [go_sem, reduceEqDiff, reduceAdd, reduceSub, reduceMul, reduceLeDiff, reduceLT, Nat.reduceBEq, reduceIte, hb3, hb4, hb5, hb6])
      have h := ifF hb6 h
      try simp only [go_sem, reduceEqDiff, reduceAdd, reduceSub, reduceMul, reduceLeDiff, reduceLT, Nat.reduceBEq, reduceIte, hb3, hb4, hb5, hb6]
      refine splitK_intro (fun hb7 => ?_) (fun hb7 => ?_)
      · have h := ifT hb7 h
        try simp only [go_sem, reduceEqDiff, reduceAdd, reduceSub, reduceMul, reduceLeDiff, reduceLT, Nat.reduceBEq, reduceIte, hb3, hb4, hb5, hb6, hb7]
        refine JoinQ.mk true [0] (Option.some.inj h) (by simp only [go_sem, reduceEqDiff, reduceAdd, reduceSub, reduceMul, reduceLeDiff, reduceLT, Nat.reduceBEq, reduceIte, hb3, hb4, hb5, hb6, hb7])
      have h := ifF hb7 h
      try simp only [go_sem, reduceEqDiff, reduceAdd, reduceSub, reduceMul, reduceLeDiff, reduceLT, Nat.reduceBEq, reduceIte, hb3, hb4, hb5, hb6, hb7]
      refine JoinQ.mk (p0.op == (38 : Int)) [0] (Option.some.inj h) (by simp only [go_sem, reduceEqDiff, reduceAdd, reduceSub, reduceMul, reduceLeDiff, reduceLT, Nat.reduceBEq, reduceIte, hb3, hb4, hb5, hb6, hb7])
    have h := ifF hb5 h
    try simp only [go_sem, reduceEqDiff, reduceAdd, reduceSub, reduceMul, reduceLeDiff, reduceLT, Nat.reduceBEq, reduceIte, hb3, hb4, hb5]
    refine splitK_intro (fun hb8 => ?_) (fun hb8 => ?_)
    · have h := ifT hb8 h
      try simp only [go_sem, reduceEqDiff, reduceAdd, reduceSub, reduceMul, reduceLeDiff, reduceLT, Nat.reduceBEq, reduceIte, hb3, hb4, hb5, hb8]
      refine JoinQ.mk true [0] (Option.some.inj h) (by simp only [go_sem, reduceEqDiff, reduceAdd, reduceSub, reduceMul, reduceLeDiff, reduceLT, Nat.reduceBEq, reduceIte, hb3, hb4, hb5, hb8])
    have h := ifF hb8 h
    try simp only [go_sem, reduceEqDiff, reduceAdd, reduceSub, reduceMul, reduceLeDiff, reduceLT, Nat.reduceBEq, reduceIte, hb3, hb4, hb5, hb8]
    refine JoinQ.mk (p0.op == (38 : Int)) [0] (Option.some.inj h) (by simp only [go_sem, reduceEqDiff, reduceAdd, reduceSub, reduceMul, reduceLeDiff, reduceLT, Nat.reduceBEq, reduceIte, hb3, hb4, hb5, hb8])
  rintro v1_0 rfl
  have h := hJ2
  try dsimp only [Out.fin] at h
  refine nz ?_
  refine AW.ts v1_0 (fun hb9 => ?_) (fun hb9 => ?_)
  · have h := ifT hb9 h
    refine AW.op mixed ?_
    refine AW.ret ?_
    obtain rfl := Option.some.inj h
    refine nz ?_
    exact .same _
  have h := ifF hb9 h
  refine AW.one ?_
  refine obindE h fun oJ11 h hJ11 => ?_
  refine AW.join (S := Bool) (fun v10_0 => [(1, .ptr 0 6 0 0), (33, .d (.val (.bool v10_0)))]) (fun v10_0 => [some ⟨6, [[.d (.val (.int .i64 p0.op)), .d (.val (.string p0.name)), .d (.val (.bool p0.num.neg)), .d (slD u32V p0.num.num), .d (slD u32V p0.num.den), .d (slD NodeA.enc p0.kids)]]⟩]) (fun x => x = oJ11) ?_ ?_
  · skip
    refine AW.rg mixed ?_
    refine splitK_intro (fun hb12 => ?_) (fun hb12 => ?_)
    · have h := ifT hb12 h
      try simp only [go_sem, reduceEqDiff, reduceAdd, reduceSub, reduceMul, reduceLeDiff, reduceLT, Nat.reduceBEq, reduceIte, hb12]
      refine JoinQ.mk true [0] (Option.some.inj h) (by simp only [go_sem, reduceEqDiff, reduceAdd, reduceSub, reduceMul, reduceLeDiff, reduceLT, Nat.reduceBEq, reduceIte, hb12])
    have h := ifF hb12 h
    try simp only [go_sem, reduceEqDiff, reduceAdd, reduceSub, reduceMul, reduceLeDiff, reduceLT, Nat.reduceBEq, reduceIte, hb12]
    refine JoinQ.mk (p0.op == (30 : Int)) [0] (Option.some.inj h) (by simp only [go_sem, reduceEqDiff, reduceAdd, reduceSub, reduceMul, reduceLeDiff, reduceLT, Nat.reduceBEq, reduceIte, hb12])
  rintro v10_0 rfl
  have h := hJ11
  try dsimp only [Out.fin] at h
  refine nz ?_
  refine AW.ts v10_0 (fun hb13 => ?_) (fun hb13 => ?_)
  · have h := ifT hb13 h
    refine AW.one ?_
    refine AW.op mixed ?_
    refine AW.kp [0] [1, 3] ?_
    refine obindE h fun oJ17 h hJ17 => ?_
    refine AW.join (S := Unit) (fun _ => []) (fun _ => []) (fun x => oJ17 = .go x) ?_ ?_
    · refine AW.block ?_
      refine AW.iter (S := Int) (fun i14_0 => [(1, .ptr 0 6 0 0), (3, .d (.val (.int .i64 i14_0)))]) (fun i14_0 => [some ⟨6, [[.d (.val (.int .i64 p0.op)), .d (.val (.string p0.name)), .d (.val (.bool p0.num.neg)), .d (slD u32V p0.num.num), .d (slD u32V p0.num.den), .d (slD NodeA.enc p0.kids)]]⟩]) [0] h (by simp only [go_sem, reduceEqDiff, reduceAdd, reduceSub, reduceMul, reduceLeDiff, reduceLT, Nat.reduceBEq, reduceIte]) ?_
      rintro again i14_0 h
      try dsimp only at h
      refine AW.one ?_
      refine AW.op mixed ?_
      refine AW.kp [0] [1, 3, 46] ?_
      refine AW.ts (decide (i14_0 < (p0.kids.length : Int))) (fun hb18 => ?_) (fun hb18 => ?_)
      · have h := ifT hb18 h
        refine AW.sk ?_
        refine AW.kp [0] [1, 3] ?_
        refine AW.one ?_
        refine AW.block ?_
        refine AW.one ?_
        refine AW.reg mixed (by kernel_rfl) ?_
        apply obindE h; intro x19 hx20 h
        try simp only [go_sem, reduceEqDiff, reduceAdd, reduceSub, reduceMul, reduceLeDiff, reduceLT, Nat.reduceBEq, reduceIte, (idx_some hx20).1, (idx_some hx20).2]
        apply obindE h; intro r21 hx22 h
        have hc := nx (hself119 _ _ hx22)
        refine callK_pure hc (by simp only [go_sem, reduceEqDiff, reduceAdd, reduceSub, reduceMul, reduceLeDiff, reduceLT, Nat.reduceBEq, reduceIte]) ?_
        try simp only [go_sem, reduceEqDiff, reduceAdd, reduceSub, reduceMul, reduceLeDiff, reduceLT, Nat.reduceBEq, reduceIte, (idx_some hx20).1, (idx_some hx20).2]
        refine AW.cut [0] [(1, .ptr 0 6 0 0), (3, .d (.val (.int .i64 i14_0))), (55, .d (.val (.bool (!r21))))] [some ⟨6, [[.d (.val (.int .i64 p0.op)), .d (.val (.string p0.name)), .d (.val (.bool p0.num.neg)), .d (slD u32V p0.num.num), .d (slD u32V p0.num.den), .d (slD NodeA.enc p0.kids)]]⟩] (by simp only [go_sem, reduceEqDiff, reduceAdd, reduceSub, reduceMul, reduceLeDiff, reduceLT, Nat.reduceBEq, reduceIte, (idx_some hx20).1, (idx_some hx20).2]) ?_
        refine AW.ts (!r21) (fun hb23 => ?_) (fun hb23 => ?_)
        · have h := ifT hb23 h
          refine AW.op mixed ?_
          refine AW.ret ?_
          obtain ⟨_, h, ho⟩ := outM_some h
          rw [ho, Out.fin_out] at hJ17
          have h := h.trans hJ17
          obtain rfl := Option.some.inj h
          refine nz ?_
          exact .same _
        have h := ifF hb23 h
        refine AW.sk ?_
        refine AW.kp [0] [1, 3] ?_
        refine AW.rg mixed ?_
        exact NextQ.ar (IntKind.wrap .i64 (i14_0 + (1 : Int))) [0] h
      have h := ifF hb18 h
      refine AW.ex ?_
      exact JoinQ.ar () [] (Option.some.inj h).symm
    rintro ⟨⟩ rfl
    have h := hJ17
    try dsimp only [Out.fin] at h
    refine nz ?_
    refine AW.kp [] [] ?_
    refine AW.op mixed ?_
    refine AW.ret ?_
    obtain rfl := Option.some.inj h
    refine nz ?_
    exact .same _
  have h := ifF hb13 h
  refine AW.sk ?_
  refine AW.kp [] [] ?_
  refine AW.op mixed ?_
  refine AW.ret ?_
  obtain rfl := Option.some.inj h
  refine nz ?_
  exact .same _
def r08_differential (K : Nat) (p0 : NodeA) : Option Bool := iter K (fun self q => r08_differential_body K self q) p0
theorem key_r08_differential {K : Nat} (k : Nat) : (∀ (q : NodeA) (r : Bool), iter k (fun self q => r08_differential_body K self q) q = some r → Cn Tryz.prog 119 [aggV q.enc] (.d (.val (.bool r)))) := by
  induction k with
  | zero => exact fun q r h => by cases h
  | succ k ih => exact fun q r h => r08_differential_step K _ ih q r h
theorem r08_differential_ok {K : Nat} {p0 : NodeA} {r : Bool} (h : r08_differential K p0 = some r) : Cn Tryz.prog 119 [aggV p0.enc] (.d (.val (.bool r))) := (key_r08_differential K) p0 r h
/-! ### isochrone/isochroneref08.kids -/
def r08_kids (K : Nat) (p0 : Int) : Option ByteArray := ((
    if (p0 == (4 : Int)) then
      some (p0 == (4 : Int))
    else
      if (p0 == (12 : Int)) then
        some (p0 == (12 : Int))
      else
        if (p0 == (50 : Int)) then
          some (p0 == (50 : Int))
        else
          if (p0 == (51 : Int)) then
            some (p0 == (51 : Int))
          else
            some (p0 == (55 : Int))) : Option Bool).bind (fun v1_0 => 
  if v1_0 then
    some (⟨#[49]⟩ : ByteArray)
  else
    ((
      if (p0 == (5 : Int)) then
        some (p0 == (5 : Int))
      else
        if (p0 == (6 : Int)) then
          some (p0 == (6 : Int))
        else
          if (p0 == (7 : Int)) then
            some (p0 == (7 : Int))
          else
            if (p0 == (8 : Int)) then
              some (p0 == (8 : Int))
            else
              if (p0 == (9 : Int)) then
                some (p0 == (9 : Int))
              else
                if (p0 == (22 : Int)) then
                  some (p0 == (22 : Int))
                else
                  if (p0 == (23 : Int)) then
                    some (p0 == (23 : Int))
                  else
                    if (p0 == (24 : Int)) then
                      some (p0 == (24 : Int))
                    else
                      if (p0 == (25 : Int)) then
                        some (p0 == (25 : Int))
                      else
                        if (p0 == (26 : Int)) then
                          some (p0 == (26 : Int))
                        else
                          some (p0 == (27 : Int))) : Option Bool).bind (fun v8_0 => 
    if v8_0 then
      some (⟨#[49, 49]⟩ : ByteArray)
    else
      ((
        if (p0 == (28 : Int)) then
          some (p0 == (28 : Int))
        else
          if (p0 == (33 : Int)) then
            some (p0 == (33 : Int))
          else
            if (p0 == (34 : Int)) then
              some (p0 == (34 : Int))
            else
              if (p0 == (39 : Int)) then
                some (p0 == (39 : Int))
              else
                some (p0 == (53 : Int))) : Option Bool).bind (fun v21_0 => 
      if v21_0 then
        some (⟨#[50]⟩ : ByteArray)
      else
        ((
          if (p0 == (29 : Int)) then
            some (p0 == (29 : Int))
          else
            if (p0 == (30 : Int)) then
              some (p0 == (30 : Int))
            else
              if (p0 == (31 : Int)) then
                some (p0 == (31 : Int))
              else
                some (p0 == (32 : Int))) : Option Bool).bind (fun v28_0 => 
        if v28_0 then
          some (⟨#[50, 50]⟩ : ByteArray)
        else
          ((
            if (p0 == (35 : Int)) then
              some (p0 == (35 : Int))
            else
              some (p0 == (36 : Int))) : Option Bool).bind (fun v34_0 => 
          if v34_0 then
            some (⟨#[51, 50]⟩ : ByteArray)
          else
            ((
              if (p0 == (57 : Int)) then
                some (p0 == (57 : Int))
              else
                some (p0 == (58 : Int))) : Option Bool).bind (fun v38_0 => 
            if v38_0 then
              some (⟨#[51, 51]⟩ : ByteArray)
            else
              ((
                if (p0 == (59 : Int)) then
                  some (p0 == (59 : Int))
                else
                  some (p0 == (60 : Int))) : Option Bool).bind (fun v42_0 => 
              if v42_0 then
                some (⟨#[51]⟩ : ByteArray)
              else
                some (⟨#[]⟩ : ByteArray))))))))
set_option maxHeartbeats 4000000 in
theorem r08_kids_ok {K : Nat} {p0 : Int} {r : ByteArray} (h : r08_kids K p0 = some r) : Cn Tryz.prog 117 [.d (.val (.int .i64 p0))] (.d (.val (.string r))) := by
  refine Cn.ofA mixed Tryz.func117 rfl Tryz.call117 Tryz.ntmps117 Tryz.results117 (by simp) (by simp only [go_sem, reduceEqDiff, reduceAdd, reduceSub, reduceMul, reduceLeDiff, reduceLT, Nat.reduceBEq, reduceIte]) fun hfit => ?_
  unfold r08_kids at h
  refine AW.kp [] [0] ?_
  refine AW.op mixed ?_
  refine AW.kp [] [0] ?_
  refine AW.one ?_
  refine AW.op mixed ?_
  refine AW.kp [] [3] ?_
  refine AW.block ?_
  refine AW.one ?_
  refine obindE h fun oJ2 h hJ2 => ?_
  refine AW.join (S := Bool) (fun v1_0 => [(3, .d (.val (.int .i64 p0))), (4, .d (.val (.bool v1_0)))]) (fun v1_0 => []) (fun x => x = oJ2) ?_ ?_
  · skip
    refine AW.op mixed ?_
    refine AW.kp [] [3, 4] ?_
    refine AW.ts (p0 == (4 : Int)) (fun hb3 => ?_) (fun hb3 => ?_)
    · have h := ifT hb3 h
      refine AW.sk ?_
      exact JoinQ.ar (p0 == (4 : Int)) [] (Option.some.inj h)
    have h := ifF hb3 h
    refine AW.op mixed ?_
    refine AW.kp [] [3, 4] ?_
    refine AW.ts (p0 == (12 : Int)) (fun hb4 => ?_) (fun hb4 => ?_)
    · have h := ifT hb4 h
      refine AW.sk ?_
      exact JoinQ.ar (p0 == (12 : Int)) [] (Option.some.inj h)
    have h := ifF hb4 h
    refine AW.op mixed ?_
    refine AW.kp [] [3, 4] ?_
    refine AW.ts (p0 == (50 : Int)) (fun hb5 => ?_) (fun hb5 => ?_)
    · have h := ifT hb5 h
      refine AW.sk ?_
      exact JoinQ.ar (p0 == (50 : Int)) [] (Option.some.inj h)
    have h := ifF hb5 h
    refine AW.op mixed ?_
    refine AW.kp [] [3, 4] ?_
    refine AW.ts (p0 == (51 : Int)) (fun hb6 => ?_) (fun hb6 => ?_)
    · have h := ifT hb6 h
      refine AW.sk ?_
      exact JoinQ.ar (p0 == (51 : Int)) [] (Option.some.inj h)
    have h := ifF hb6 h
    refine AW.rg mixed ?_
    exact JoinQ.ar (p0 == (55 : Int)) [] (Option.some.inj h)
  rintro v1_0 rfl
  have h := hJ2
  try dsimp only [Out.fin] at h
  refine nz ?_
  refine AW.ts v1_0 (fun hb7 => ?_) (fun hb7 => ?_)
  · have h := ifT hb7 h
    refine AW.op mixed ?_
    refine AW.ret ?_
    obtain rfl := Option.some.inj h
    refine nz ?_
    exact .same _
  have h := ifF hb7 h
  refine AW.one ?_
  refine obindE h fun oJ9 h hJ9 => ?_
  refine AW.join (S := Bool) (fun v8_0 => [(3, .d (.val (.int .i64 p0))), (10, .d (.val (.bool v8_0)))]) (fun v8_0 => []) (fun x => x = oJ9) ?_ ?_
  · skip
    refine AW.op mixed ?_
    refine AW.kp [] [3, 10] ?_
    refine AW.ts (p0 == (5 : Int)) (fun hb10 => ?_) (fun hb10 => ?_)
    · have h := ifT hb10 h
      refine AW.sk ?_
      exact JoinQ.ar (p0 == (5 : Int)) [] (Option.some.inj h)
    have h := ifF hb10 h
    refine AW.op mixed ?_
    refine AW.kp [] [3, 10] ?_
    refine AW.ts (p0 == (6 : Int)) (fun hb11 => ?_) (fun hb11 => ?_)
    · have h := ifT hb11 h
      refine AW.sk ?_
      exact JoinQ.ar (p0 == (6 : Int)) [] (Option.some.inj h)
    have h := ifF hb11 h
    refine AW.op mixed ?_
    refine AW.kp [] [3, 10] ?_
    refine AW.ts (p0 == (7 : Int)) (fun hb12 => ?_) (fun hb12 => ?_)
    · have h := ifT hb12 h
      refine AW.sk ?_
      exact JoinQ.ar (p0 == (7 : Int)) [] (Option.some.inj h)
    have h := ifF hb12 h
    refine AW.op mixed ?_
    refine AW.kp [] [3, 10] ?_
    refine AW.ts (p0 == (8 : Int)) (fun hb13 => ?_) (fun hb13 => ?_)
    · have h := ifT hb13 h
      refine AW.sk ?_
      exact JoinQ.ar (p0 == (8 : Int)) [] (Option.some.inj h)
    have h := ifF hb13 h
    refine AW.op mixed ?_
    refine AW.kp [] [3, 10] ?_
    refine AW.ts (p0 == (9 : Int)) (fun hb14 => ?_) (fun hb14 => ?_)
    · have h := ifT hb14 h
      refine AW.sk ?_
      exact JoinQ.ar (p0 == (9 : Int)) [] (Option.some.inj h)
    have h := ifF hb14 h
    refine AW.op mixed ?_
    refine AW.kp [] [3, 10] ?_
    refine AW.ts (p0 == (22 : Int)) (fun hb15 => ?_) (fun hb15 => ?_)
    · have h := ifT hb15 h
      refine AW.sk ?_
      exact JoinQ.ar (p0 == (22 : Int)) [] (Option.some.inj h)
    have h := ifF hb15 h
    refine AW.op mixed ?_
    refine AW.kp [] [3, 10] ?_
    refine AW.ts (p0 == (23 : Int)) (fun hb16 => ?_) (fun hb16 => ?_)
    · have h := ifT hb16 h
      refine AW.sk ?_
      exact JoinQ.ar (p0 == (23 : Int)) [] (Option.some.inj h)
    have h := ifF hb16 h
    refine AW.op mixed ?_
    refine AW.kp [] [3, 10] ?_
    refine AW.ts (p0 == (24 : Int)) (fun hb17 => ?_) (fun hb17 => ?_)
    · have h := ifT hb17 h
      refine AW.sk ?_
      exact JoinQ.ar (p0 == (24 : Int)) [] (Option.some.inj h)
    have h := ifF hb17 h
    refine AW.op mixed ?_
    refine AW.kp [] [3, 10] ?_
    refine AW.ts (p0 == (25 : Int)) (fun hb18 => ?_) (fun hb18 => ?_)
    · have h := ifT hb18 h
      refine AW.sk ?_
      exact JoinQ.ar (p0 == (25 : Int)) [] (Option.some.inj h)
    have h := ifF hb18 h
    refine AW.op mixed ?_
    refine AW.kp [] [3, 10] ?_
    refine AW.ts (p0 == (26 : Int)) (fun hb19 => ?_) (fun hb19 => ?_)
    · have h := ifT hb19 h
      refine AW.sk ?_
      exact JoinQ.ar (p0 == (26 : Int)) [] (Option.some.inj h)
    have h := ifF hb19 h
    refine AW.rg mixed ?_
    exact JoinQ.ar (p0 == (27 : Int)) [] (Option.some.inj h)
  rintro v8_0 rfl
  have h := hJ9
  try dsimp only [Out.fin] at h
  refine nz ?_
  refine AW.ts v8_0 (fun hb20 => ?_) (fun hb20 => ?_)
  · have h := ifT hb20 h
    refine AW.op mixed ?_
    refine AW.ret ?_
    obtain rfl := Option.some.inj h
    refine nz ?_
    exact .same _
  have h := ifF hb20 h
  refine AW.one ?_
  refine obindE h fun oJ22 h hJ22 => ?_
  refine AW.join (S := Bool) (fun v21_0 => [(3, .d (.val (.int .i64 p0))), (22, .d (.val (.bool v21_0)))]) (fun v21_0 => []) (fun x => x = oJ22) ?_ ?_
  · skip
    refine AW.op mixed ?_
    refine AW.kp [] [3, 22] ?_
    refine AW.ts (p0 == (28 : Int)) (fun hb23 => ?_) (fun hb23 => ?_)
    · have h := ifT hb23 h
      refine AW.sk ?_
      exact JoinQ.ar (p0 == (28 : Int)) [] (Option.some.inj h)
    have h := ifF hb23 h
    refine AW.op mixed ?_
    refine AW.kp [] [3, 22] ?_
    refine AW.ts (p0 == (33 : Int)) (fun hb24 => ?_) (fun hb24 => ?_)
    · have h := ifT hb24 h
      refine AW.sk ?_
      exact JoinQ.ar (p0 == (33 : Int)) [] (Option.some.inj h)
    have h := ifF hb24 h
    refine AW.op mixed ?_
    refine AW.kp [] [3, 22] ?_
    refine AW.ts (p0 == (34 : Int)) (fun hb25 => ?_) (fun hb25 => ?_)
    · have h := ifT hb25 h
      refine AW.sk ?_
      exact JoinQ.ar (p0 == (34 : Int)) [] (Option.some.inj h)
    have h := ifF hb25 h
    refine AW.op mixed ?_
    refine AW.kp [] [3, 22] ?_
    refine AW.ts (p0 == (39 : Int)) (fun hb26 => ?_) (fun hb26 => ?_)
    · have h := ifT hb26 h
      refine AW.sk ?_
      exact JoinQ.ar (p0 == (39 : Int)) [] (Option.some.inj h)
    have h := ifF hb26 h
    refine AW.rg mixed ?_
    exact JoinQ.ar (p0 == (53 : Int)) [] (Option.some.inj h)
  rintro v21_0 rfl
  have h := hJ22
  try dsimp only [Out.fin] at h
  refine nz ?_
  refine AW.ts v21_0 (fun hb27 => ?_) (fun hb27 => ?_)
  · have h := ifT hb27 h
    refine AW.op mixed ?_
    refine AW.ret ?_
    obtain rfl := Option.some.inj h
    refine nz ?_
    exact .same _
  have h := ifF hb27 h
  refine AW.one ?_
  refine obindE h fun oJ29 h hJ29 => ?_
  refine AW.join (S := Bool) (fun v28_0 => [(3, .d (.val (.int .i64 p0))), (28, .d (.val (.bool v28_0)))]) (fun v28_0 => []) (fun x => x = oJ29) ?_ ?_
  · skip
    refine AW.op mixed ?_
    refine AW.kp [] [3, 28] ?_
    refine AW.ts (p0 == (29 : Int)) (fun hb30 => ?_) (fun hb30 => ?_)
    · have h := ifT hb30 h
      refine AW.sk ?_
      exact JoinQ.ar (p0 == (29 : Int)) [] (Option.some.inj h)
    have h := ifF hb30 h
    refine AW.op mixed ?_
    refine AW.kp [] [3, 28] ?_
    refine AW.ts (p0 == (30 : Int)) (fun hb31 => ?_) (fun hb31 => ?_)
    · have h := ifT hb31 h
      refine AW.sk ?_
      exact JoinQ.ar (p0 == (30 : Int)) [] (Option.some.inj h)
    have h := ifF hb31 h
    refine AW.op mixed ?_
    refine AW.kp [] [3, 28] ?_
    refine AW.ts (p0 == (31 : Int)) (fun hb32 => ?_) (fun hb32 => ?_)
    · have h := ifT hb32 h
      refine AW.sk ?_
      exact JoinQ.ar (p0 == (31 : Int)) [] (Option.some.inj h)
    have h := ifF hb32 h
    refine AW.rg mixed ?_
    exact JoinQ.ar (p0 == (32 : Int)) [] (Option.some.inj h)
  rintro v28_0 rfl
  have h := hJ29
  try dsimp only [Out.fin] at h
  refine nz ?_
  refine AW.ts v28_0 (fun hb33 => ?_) (fun hb33 => ?_)
  · have h := ifT hb33 h
    refine AW.op mixed ?_
    refine AW.ret ?_
    obtain rfl := Option.some.inj h
    refine nz ?_
    exact .same _
  have h := ifF hb33 h
  refine AW.one ?_
  refine obindE h fun oJ35 h hJ35 => ?_
  refine AW.join (S := Bool) (fun v34_0 => [(3, .d (.val (.int .i64 p0))), (33, .d (.val (.bool v34_0)))]) (fun v34_0 => []) (fun x => x = oJ35) ?_ ?_
  · skip
    refine AW.op mixed ?_
    refine AW.kp [] [3, 33] ?_
    refine AW.ts (p0 == (35 : Int)) (fun hb36 => ?_) (fun hb36 => ?_)
    · have h := ifT hb36 h
      refine AW.sk ?_
      exact JoinQ.ar (p0 == (35 : Int)) [] (Option.some.inj h)
    have h := ifF hb36 h
    refine AW.rg mixed ?_
    exact JoinQ.ar (p0 == (36 : Int)) [] (Option.some.inj h)
  rintro v34_0 rfl
  have h := hJ35
  try dsimp only [Out.fin] at h
  refine nz ?_
  refine AW.ts v34_0 (fun hb37 => ?_) (fun hb37 => ?_)
  · have h := ifT hb37 h
    refine AW.op mixed ?_
    refine AW.ret ?_
    obtain rfl := Option.some.inj h
    refine nz ?_
    exact .same _
  have h := ifF hb37 h
  refine AW.one ?_
  refine obindE h fun oJ39 h hJ39 => ?_
  refine AW.join (S := Bool) (fun v38_0 => [(3, .d (.val (.int .i64 p0))), (36, .d (.val (.bool v38_0)))]) (fun v38_0 => []) (fun x => x = oJ39) ?_ ?_
  · skip
    refine AW.op mixed ?_
    refine AW.kp [] [3, 36] ?_
    refine AW.ts (p0 == (57 : Int)) (fun hb40 => ?_) (fun hb40 => ?_)
    · have h := ifT hb40 h
      refine AW.sk ?_
      exact JoinQ.ar (p0 == (57 : Int)) [] (Option.some.inj h)
    have h := ifF hb40 h
    refine AW.rg mixed ?_
    exact JoinQ.ar (p0 == (58 : Int)) [] (Option.some.inj h)
  rintro v38_0 rfl
  have h := hJ39
  try dsimp only [Out.fin] at h
  refine nz ?_
  refine AW.ts v38_0 (fun hb41 => ?_) (fun hb41 => ?_)
  · have h := ifT hb41 h
    refine AW.op mixed ?_
    refine AW.ret ?_
    obtain rfl := Option.some.inj h
    refine nz ?_
    exact .same _
  have h := ifF hb41 h
  refine AW.one ?_
  refine obindE h fun oJ43 h hJ43 => ?_
  refine AW.join (S := Bool) (fun v42_0 => [(39, .d (.val (.bool v42_0)))]) (fun v42_0 => []) (fun x => x = oJ43) ?_ ?_
  · skip
    refine AW.op mixed ?_
    refine AW.kp [] [3, 39] ?_
    refine AW.ts (p0 == (59 : Int)) (fun hb44 => ?_) (fun hb44 => ?_)
    · have h := ifT hb44 h
      refine AW.sk ?_
      exact JoinQ.ar (p0 == (59 : Int)) [] (Option.some.inj h)
    have h := ifF hb44 h
    refine AW.rg mixed ?_
    exact JoinQ.ar (p0 == (60 : Int)) [] (Option.some.inj h)
  rintro v42_0 rfl
  have h := hJ43
  try dsimp only [Out.fin] at h
  refine nz ?_
  refine AW.ts v42_0 (fun hb45 => ?_) (fun hb45 => ?_)
  · have h := ifT hb45 h
    refine AW.op mixed ?_
    refine AW.ret ?_
    obtain rfl := Option.some.inj h
    refine nz ?_
    exact .same _
  have h := ifF hb45 h
  refine AW.sk ?_
  refine AW.kp [] [] ?_
  refine AW.op mixed ?_
  refine AW.ret ?_
  obtain rfl := Option.some.inj h
  refine nz ?_
  exact .same _
/-! ### isochrone/isochroneref08.named -/
def r08_named (K : Nat) (p0 : Int) : Option Bool := ((
    if (p0 == (2 : Int)) then
      some (p0 == (2 : Int))
    else
      if (p0 == (3 : Int)) then
        some (p0 == (3 : Int))
      else
        if (p0 == (10 : Int)) then
          some (p0 == (10 : Int))
        else
          if (p0 == (11 : Int)) then
            some (p0 == (11 : Int))
          else
            if (p0 == (33 : Int)) then
              some (p0 == (33 : Int))
            else
              if (p0 == (34 : Int)) then
                some (p0 == (34 : Int))
              else
                if (p0 == (37 : Int)) then
                  some (p0 == (37 : Int))
                else
                  if (p0 == (38 : Int)) then
                    some (p0 == (38 : Int))
                  else
                    if (p0 == (50 : Int)) then
                      some (p0 == (50 : Int))
                    else
                      if (p0 == (51 : Int)) then
                        some (p0 == (51 : Int))
                      else
                        if (p0 == (52 : Int)) then
                          some (p0 == (52 : Int))
                        else
                          if (p0 == (55 : Int)) then
                            some (p0 == (55 : Int))
                          else
                            if (p0 == (56 : Int)) then
                              some (p0 == (56 : Int))
                            else
                              if (p0 == (61 : Int)) then
                                some (p0 == (61 : Int))
                              else
                                some (p0 == (62 : Int))) : Option Bool).bind (fun v1_0 => 
  if v1_0 then
    some true
  else
    some false)
set_option maxHeartbeats 4000000 in
theorem r08_named_ok {K : Nat} {p0 : Int} {r : Bool} (h : r08_named K p0 = some r) : Cn Tryz.prog 114 [.d (.val (.int .i64 p0))] (.d (.val (.bool r))) := by
  refine Cn.ofA mixed Tryz.func114 rfl Tryz.call114 Tryz.ntmps114 Tryz.results114 (by simp) (by simp only [go_sem, reduceEqDiff, reduceAdd, reduceSub, reduceMul, reduceLeDiff, reduceLT, Nat.reduceBEq, reduceIte]) fun hfit => ?_
  unfold r08_named at h
  refine AW.kp [] [0] ?_
  refine AW.op mixed ?_
  refine AW.kp [] [0] ?_
  refine AW.one ?_
  refine AW.op mixed ?_
  refine AW.kp [] [3] ?_
  refine AW.block ?_
  refine AW.one ?_
  refine obindE h fun oJ2 h hJ2 => ?_
  refine AW.join (S := Bool) (fun v1_0 => [(4, .d (.val (.bool v1_0)))]) (fun v1_0 => []) (fun x => x = oJ2) ?_ ?_
  · skip
    refine AW.op mixed ?_
    refine AW.kp [] [3, 4] ?_
    refine AW.ts (p0 == (2 : Int)) (fun hb3 => ?_) (fun hb3 => ?_)
    · have h := ifT hb3 h
      refine AW.sk ?_
      exact JoinQ.ar (p0 == (2 : Int)) [] (Option.some.inj h)
    have h := ifF hb3 h
    refine AW.op mixed ?_
    refine AW.kp [] [3, 4] ?_
    refine AW.ts (p0 == (3 : Int)) (fun hb4 => ?_) (fun hb4 => ?_)
    · have h := ifT hb4 h
      refine AW.sk ?_
      exact JoinQ.ar (p0 == (3 : Int)) [] (Option.some.inj h)
    have h := ifF hb4 h
    refine AW.op mixed ?_
    refine AW.kp [] [3, 4] ?_
    refine AW.ts (p0 == (10 : Int)) (fun hb5 => ?_) (fun hb5 => ?_)
    · have h := ifT hb5 h
      refine AW.sk ?_
      exact JoinQ.ar (p0 == (10 : Int)) [] (Option.some.inj h)
    have h := ifF hb5 h
    refine AW.op mixed ?_
    refine AW.kp [] [3, 4] ?_
    refine AW.ts (p0 == (11 : Int)) (fun hb6 => ?_) (fun hb6 => ?_)
    · have h := ifT hb6 h
      refine AW.sk ?_
      exact JoinQ.ar (p0 == (11 : Int)) [] (Option.some.inj h)
    have h := ifF hb6 h
    refine AW.op mixed ?_
    refine AW.kp [] [3, 4] ?_
    refine AW.ts (p0 == (33 : Int)) (fun hb7 => ?_) (fun hb7 => ?_)
    · have h := ifT hb7 h
      refine AW.sk ?_
      exact JoinQ.ar (p0 == (33 : Int)) [] (Option.some.inj h)
    have h := ifF hb7 h
    refine AW.op mixed ?_
    refine AW.kp [] [3, 4] ?_
    refine AW.ts (p0 == (34 : Int)) (fun hb8 => ?_) (fun hb8 => ?_)
    · have h := ifT hb8 h
      refine AW.sk ?_
      exact JoinQ.ar (p0 == (34 : Int)) [] (Option.some.inj h)
    have h := ifF hb8 h
    refine AW.op mixed ?_
    refine AW.kp [] [3, 4] ?_
    refine AW.ts (p0 == (37 : Int)) (fun hb9 => ?_) (fun hb9 => ?_)
    · have h := ifT hb9 h
      refine AW.sk ?_
      exact JoinQ.ar (p0 == (37 : Int)) [] (Option.some.inj h)
    have h := ifF hb9 h
    refine AW.op mixed ?_
    refine AW.kp [] [3, 4] ?_
    refine AW.ts (p0 == (38 : Int)) (fun hb10 => ?_) (fun hb10 => ?_)
    · have h := ifT hb10 h
      refine AW.sk ?_
      exact JoinQ.ar (p0 == (38 : Int)) [] (Option.some.inj h)
    have h := ifF hb10 h
    refine AW.op mixed ?_
    refine AW.kp [] [3, 4] ?_
    refine AW.ts (p0 == (50 : Int)) (fun hb11 => ?_) (fun hb11 => ?_)
    · have h := ifT hb11 h
      refine AW.sk ?_
      exact JoinQ.ar (p0 == (50 : Int)) [] (Option.some.inj h)
    have h := ifF hb11 h
    refine AW.op mixed ?_
    refine AW.kp [] [3, 4] ?_
    refine AW.ts (p0 == (51 : Int)) (fun hb12 => ?_) (fun hb12 => ?_)
    · have h := ifT hb12 h
      refine AW.sk ?_
      exact JoinQ.ar (p0 == (51 : Int)) [] (Option.some.inj h)
    have h := ifF hb12 h
    refine AW.op mixed ?_
    refine AW.kp [] [3, 4] ?_
    refine AW.ts (p0 == (52 : Int)) (fun hb13 => ?_) (fun hb13 => ?_)
    · have h := ifT hb13 h
      refine AW.sk ?_
      exact JoinQ.ar (p0 == (52 : Int)) [] (Option.some.inj h)
    have h := ifF hb13 h
    refine AW.op mixed ?_
    refine AW.kp [] [3, 4] ?_
    refine AW.ts (p0 == (55 : Int)) (fun hb14 => ?_) (fun hb14 => ?_)
    · have h := ifT hb14 h
      refine AW.sk ?_
      exact JoinQ.ar (p0 == (55 : Int)) [] (Option.some.inj h)
    have h := ifF hb14 h
    refine AW.op mixed ?_
    refine AW.kp [] [3, 4] ?_
    refine AW.ts (p0 == (56 : Int)) (fun hb15 => ?_) (fun hb15 => ?_)
    · have h := ifT hb15 h
      refine AW.sk ?_
      exact JoinQ.ar (p0 == (56 : Int)) [] (Option.some.inj h)
    have h := ifF hb15 h
    refine AW.op mixed ?_
    refine AW.kp [] [3, 4] ?_
    refine AW.ts (p0 == (61 : Int)) (fun hb16 => ?_) (fun hb16 => ?_)
    · have h := ifT hb16 h
      refine AW.sk ?_
      exact JoinQ.ar (p0 == (61 : Int)) [] (Option.some.inj h)
    have h := ifF hb16 h
    refine AW.rg mixed ?_
    exact JoinQ.ar (p0 == (62 : Int)) [] (Option.some.inj h)
  rintro v1_0 rfl
  have h := hJ2
  try dsimp only [Out.fin] at h
  refine nz ?_
  refine AW.ts v1_0 (fun hb17 => ?_) (fun hb17 => ?_)
  · have h := ifT hb17 h
    refine AW.op mixed ?_
    refine AW.ret ?_
    obtain rfl := Option.some.inj h
    refine nz ?_
    exact .same _
  have h := ifF hb17 h
  refine AW.sk ?_
  refine AW.kp [] [] ?_
  refine AW.op mixed ?_
  refine AW.ret ?_
  obtain rfl := Option.some.inj h
  refine nz ?_
  exact .same _
/-! ### isochrone/isochroneref08.natural -/
def r08_natural (K : Nat) (p0 : RatA) : Option Bool := ((
    ((
      if p0.neg then
        some true
      else
        if ((p0.den.length : Int) != (1 : Int)) then
          some true
        else
          (idx p0.den (0 : Int)).bind fun x7 => 
          if (x7 != (1 : Int)) then
            some true
          else
            some (decide ((20 : Int) < (p0.num.length : Int)))) : Option Bool).bind (fun v3_0 => 
    if v3_0 then
      outM (
        some false)
    else
      some (.go ()))) : Option (Out Unit _)).bind (Out.fin fun _ => 
  if ((p0.num.length : Int) == (0 : Int)) then
    some true
  else
    (idx p0.num (IntKind.wrap .i64 ((p0.num.length : Int) - (1 : Int)))).bind fun x12 => 
    some (x12 != (0 : Int)))
set_option maxHeartbeats 4000000 in
theorem r08_natural_ok {K : Nat} {p0 : RatA} {r : Bool} (h : r08_natural K p0 = some r) : Cn Tryz.prog 115 [aggV p0.enc] (.d (.val (.bool r))) := by
  refine Cn.ofA mixed Tryz.func115 rfl Tryz.call115 Tryz.ntmps115 Tryz.results115 (by simp) (by simp only [go_sem, reduceEqDiff, reduceAdd, reduceSub, reduceMul, reduceLeDiff, reduceLT, Nat.reduceBEq, reduceIte]) fun hfit => ?_
  unfold r08_natural at h
  refine AW.kp [] [0] ?_
  refine AW.op mixed ?_
  refine AW.kp [0] [1] ?_
  refine AW.one ?_
  refine obindE h fun oJ2 h hJ2 => ?_
  refine AW.join (S := Unit) (fun _ => [(1, .ptr 0 3 0 0)]) (fun _ => [some ⟨3, [[.d (.val (.bool p0.neg)), .d (slD u32V p0.num), .d (slD u32V p0.den)]]⟩]) (fun x => oJ2 = .go x) ?_ ?_
  · skip
    refine AW.one ?_
    refine obindE h fun oJ4 h hJ4 => ?_
    refine AW.join (S := Bool) (fun v3_0 => [(1, .ptr 0 3 0 0), (23, .d (.val (.bool v3_0)))]) (fun v3_0 => [some ⟨3, [[.d (.val (.bool p0.neg)), .d (slD u32V p0.num), .d (slD u32V p0.den)]]⟩]) (fun x => x = oJ4) ?_ ?_
    · skip
      refine AW.rg mixed ?_
      refine splitK_intro (fun hb5 => ?_) (fun hb5 => ?_)
      · have h := ifT hb5 h
        try simp only [go_sem, reduceEqDiff, reduceAdd, reduceSub, reduceMul, reduceLeDiff, reduceLT, Nat.reduceBEq, reduceIte, hb5]
        refine JoinQ.mk true [0] (Option.some.inj h) (by simp only [go_sem, reduceEqDiff, reduceAdd, reduceSub, reduceMul, reduceLeDiff, reduceLT, Nat.reduceBEq, reduceIte, hb5])
      have h := ifF hb5 h
      try simp only [go_sem, reduceEqDiff, reduceAdd, reduceSub, reduceMul, reduceLeDiff, reduceLT, Nat.reduceBEq, reduceIte, hb5]
      refine splitK_intro (fun hb6 => ?_) (fun hb6 => ?_)
      · have h := ifT hb6 h
        try simp only [go_sem, reduceEqDiff, reduceAdd, reduceSub, reduceMul, reduceLeDiff, reduceLT, Nat.reduceBEq, reduceIte, hb5, hb6]
        refine JoinQ.mk true [0] (Option.some.inj h) (by simp only [go_sem, reduceEqDiff, reduceAdd, reduceSub, reduceMul, reduceLeDiff, reduceLT, Nat.reduceBEq, reduceIte, hb5, hb6])
      have h := ifF hb6 h
      apply obindE h; intro x7 hx8 h
      try simp only [go_sem, reduceEqDiff, reduceAdd, reduceSub, reduceMul, reduceLeDiff, reduceLT, Nat.reduceBEq, reduceIte, hb5, hb6, (idx_some hx8).1, (idx_some hx8).2]
      refine splitK_intro (fun hb9 => ?_) (fun hb9 => ?_)
      · have h := ifT hb9 h
        try simp only [go_sem, reduceEqDiff, reduceAdd, reduceSub, reduceMul, reduceLeDiff, reduceLT, Nat.reduceBEq, reduceIte, hb5, hb6, (idx_some hx8).1, (idx_some hx8).2, hb9]
        refine JoinQ.mk true [0] (Option.some.inj h) (by simp only [go_sem, reduceEqDiff, reduceAdd, reduceSub, reduceMul, reduceLeDiff, reduceLT, Nat.reduceBEq, reduceIte, hb5, hb6, (idx_some hx8).1, (idx_some hx8).2, hb9])
      have h := ifF hb9 h
      try simp only [go_sem, reduceEqDiff, reduceAdd, reduceSub, reduceMul, reduceLeDiff, reduceLT, Nat.reduceBEq, reduceIte, hb5, hb6, (idx_some hx8).1, (idx_some hx8).2, hb9]
      refine JoinQ.mk (decide ((20 : Int) < (p0.num.length : Int))) [0] (Option.some.inj h) (by simp only [go_sem, reduceEqDiff, reduceAdd, reduceSub, reduceMul, reduceLeDiff, reduceLT, Nat.reduceBEq, reduceIte, hb5, hb6, (idx_some hx8).1, (idx_some hx8).2, hb9])
    rintro v3_0 rfl
    have h := hJ4
    try dsimp only [Out.fin] at h
    refine nz ?_
    refine AW.ts v3_0 (fun hb10 => ?_) (fun hb10 => ?_)
    · have h := ifT hb10 h
      refine AW.op mixed ?_
      refine AW.ret ?_
      obtain ⟨_, h, ho⟩ := outM_some h
      rw [ho, Out.fin_out] at hJ2
      have h := h.trans hJ2
      obtain rfl := Option.some.inj h
      refine nz ?_
      exact .same _
    have h := ifF hb10 h
    refine AW.sk ?_
    exact JoinQ.ar () [0] (Option.some.inj h).symm
  rintro ⟨⟩ rfl
  have h := hJ2
  try dsimp only [Out.fin] at h
  refine nz ?_
  refine AW.op mixed ?_
  refine splitK_intro (fun hb11 => ?_) (fun hb11 => ?_)
  · have h := ifT hb11 h
    try simp only [go_sem, reduceEqDiff, reduceAdd, reduceSub, reduceMul, reduceLeDiff, reduceLT, Nat.reduceBEq, reduceIte, hb11]
    refine AW.ret ?_
    obtain rfl := Option.some.inj h
    refine nz ?_
    exact .same _
  have h := ifF hb11 h
  apply obindE h; intro x12 hx13 h
  try simp only [go_sem, reduceEqDiff, reduceAdd, reduceSub, reduceMul, reduceLeDiff, reduceLT, Nat.reduceBEq, reduceIte, hb11, (idx_some hx13).1, (idx_some hx13).2]
  refine AW.ret ?_
  obtain rfl := Option.some.inj h
  refine nz ?_
  exact .same _
/-! ### isochrone/isochroneref08.primed -/
def r08_primed_body (K : Nat) (self130 : NodeA → Option Bool) (p0 : NodeA) : Option Bool := ((
    ((
      if (p0.op == (3 : Int)) then
        some true
      else
        if (p0.op == (12 : Int)) then
          some true
        else
          some (p0.op == (39 : Int))) : Option Bool).bind (fun v3_0 => 
    if v3_0 then
      outM (
        some true)
    else
      some (.go ()))) : Option (Out Unit _)).bind (Out.fin fun _ => 
  ((iter (S := Int) (R := Out Unit _) K (fun again i8_0 => 
    if (decide (i8_0 < (p0.kids.length : Int))) then
      (idx p0.kids i8_0).bind fun x13 => 
      (self130 (x13)).bind fun r15 => 
      if r15 then
        outM (
          some true)
      else
        again (IntKind.wrap .i64 (i8_0 + (1 : Int)))
    else
      some (.go ())) (0 : Int)) : Option (Out Unit _)).bind (Out.fin fun _ => 
  some false))
set_option maxHeartbeats 4000000 in
theorem r08_primed_step (K : Nat) (self130 : NodeA → Option Bool) (hself130 : ∀ (q : NodeA) (r : Bool), self130 q = some r → Cn Tryz.prog 130 [aggV q.enc] (.d (.val (.bool r)))) (p0 : NodeA) (r : Bool) (h : r08_primed_body K self130 p0 = some r) : Cn Tryz.prog 130 [aggV p0.enc] (.d (.val (.bool r))) := by
  refine Cn.ofA mixed Tryz.func130 rfl Tryz.call130 Tryz.ntmps130 Tryz.results130 (by simp) (by simp only [go_sem, reduceEqDiff, reduceAdd, reduceSub, reduceMul, reduceLeDiff, reduceLT, Nat.reduceBEq, reduceIte]) fun hfit => ?_
  unfold r08_primed_body at h
  refine AW.kp [] [0] ?_
  refine AW.op mixed ?_
  refine AW.kp [0] [1] ?_
  refine AW.one ?_
  refine obindE h fun oJ2 h hJ2 => ?_
  refine AW.join (S := Unit) (fun _ => [(1, .ptr 0 6 0 0)]) (fun _ => [some ⟨6, [[.d (.val (.int .i64 p0.op)), .d (.val (.string p0.name)), .d (.val (.bool p0.num.neg)), .d (slD u32V p0.num.num), .d (slD u32V p0.num.den), .d (slD NodeA.enc p0.kids)]]⟩]) (fun x => oJ2 = .go x) ?_ ?_
  · skip
    refine AW.one ?_
    refine obindE h fun oJ4 h hJ4 => ?_
    refine AW.join (S := Bool) (fun v3_0 => [(1, .ptr 0 6 0 0), (16, .d (.val (.bool v3_0)))]) (fun v3_0 => [some ⟨6, [[.d (.val (.int .i64 p0.op)), .d (.val (.string p0.name)), .d (.val (.bool p0.num.neg)), .d (slD u32V p0.num.num), .d (slD u32V p0.num.den), .d (slD NodeA.enc p0.kids)]]⟩]) (fun x => x = oJ4) ?_ ?_
    · skip
      refine AW.rg mixed ?_
      refine splitK_intro (fun hb5 => ?_) (fun hb5 => ?_)
      · have h := ifT hb5 h
        try simp only [go_sem, reduceEqDiff, reduceAdd, reduceSub, reduceMul, reduceLeDiff, reduceLT, Nat.reduceBEq, reduceIte, hb5]
        refine JoinQ.mk true [0] (Option.some.inj h) (by simp only [go_sem, reduceEqDiff, reduceAdd, reduceSub, reduceMul, reduceLeDiff, reduceLT, Nat.reduceBEq, reduceIte, hb5])
      have h := ifF hb5 h
      try simp only [go_sem, reduceEqDiff, reduceAdd, reduceSub, reduceMul, reduceLeDiff, reduceLT, Nat.reduceBEq, reduceIte, hb5]
      refine splitK_intro (fun hb6 => ?_) (fun hb6 => ?_)
      · have h := ifT hb6 h
        try simp only [go_sem, reduceEqDiff, reduceAdd, reduceSub, reduceMul, reduceLeDiff, reduceLT, Nat.reduceBEq, reduceIte, hb5, hb6]
        refine JoinQ.mk true [0] (Option.some.inj h) (by simp only [go_sem, reduceEqDiff, reduceAdd, reduceSub, reduceMul, reduceLeDiff, reduceLT, Nat.reduceBEq, reduceIte, hb5, hb6])
      have h := ifF hb6 h
      try simp only [go_sem, reduceEqDiff, reduceAdd, reduceSub, reduceMul, reduceLeDiff, reduceLT, Nat.reduceBEq, reduceIte, hb5, hb6]
      refine JoinQ.mk (p0.op == (39 : Int)) [0] (Option.some.inj h) (by simp only [go_sem, reduceEqDiff, reduceAdd, reduceSub, reduceMul, reduceLeDiff, reduceLT, Nat.reduceBEq, reduceIte, hb5, hb6])
    rintro v3_0 rfl
    have h := hJ4
    try dsimp only [Out.fin] at h
    refine nz ?_
    refine AW.ts v3_0 (fun hb7 => ?_) (fun hb7 => ?_)
    · have h := ifT hb7 h
      refine AW.op mixed ?_
      refine AW.ret ?_
      obtain ⟨_, h, ho⟩ := outM_some h
      rw [ho, Out.fin_out] at hJ2
      have h := h.trans hJ2
      obtain rfl := Option.some.inj h
      refine nz ?_
      exact .same _
    have h := ifF hb7 h
    refine AW.sk ?_
    exact JoinQ.ar () [0] (Option.some.inj h).symm
  rintro ⟨⟩ rfl
  have h := hJ2
  try dsimp only [Out.fin] at h
  refine nz ?_
  refine AW.one ?_
  refine AW.op mixed ?_
  refine AW.kp [0] [1, 3] ?_
  refine obindE h fun oJ11 h hJ11 => ?_
  refine AW.join (S := Unit) (fun _ => []) (fun _ => []) (fun x => oJ11 = .go x) ?_ ?_
  · refine AW.block ?_
    refine AW.iter (S := Int) (fun i8_0 => [(1, .ptr 0 6 0 0), (3, .d (.val (.int .i64 i8_0)))]) (fun i8_0 => [some ⟨6, [[.d (.val (.int .i64 p0.op)), .d (.val (.string p0.name)), .d (.val (.bool p0.num.neg)), .d (slD u32V p0.num.num), .d (slD u32V p0.num.den), .d (slD NodeA.enc p0.kids)]]⟩]) [0] h (by simp only [go_sem, reduceEqDiff, reduceAdd, reduceSub, reduceMul, reduceLeDiff, reduceLT, Nat.reduceBEq, reduceIte]) ?_
    rintro again i8_0 h
    try dsimp only at h
    refine AW.one ?_
    refine AW.op mixed ?_
    refine AW.kp [0] [1, 3, 21] ?_
    refine AW.ts (decide (i8_0 < (p0.kids.length : Int))) (fun hb12 => ?_) (fun hb12 => ?_)
    · have h := ifT hb12 h
      refine AW.sk ?_
      refine AW.kp [0] [1, 3] ?_
      refine AW.one ?_
      refine AW.block ?_
      refine AW.one ?_
      refine AW.reg mixed (by kernel_rfl) ?_
      apply obindE h; intro x13 hx14 h
      try simp only [go_sem, reduceEqDiff, reduceAdd, reduceSub, reduceMul, reduceLeDiff, reduceLT, Nat.reduceBEq, reduceIte, (idx_some hx14).1, (idx_some hx14).2]
      apply obindE h; intro r15 hx16 h
      have hc := nx (hself130 _ _ hx16)
      refine callK_pure hc (by simp only [go_sem, reduceEqDiff, reduceAdd, reduceSub, reduceMul, reduceLeDiff, reduceLT, Nat.reduceBEq, reduceIte]) ?_
      try simp only [go_sem, reduceEqDiff, reduceAdd, reduceSub, reduceMul, reduceLeDiff, reduceLT, Nat.reduceBEq, reduceIte, (idx_some hx14).1, (idx_some hx14).2]
      refine AW.cut [0] [(1, .ptr 0 6 0 0), (3, .d (.val (.int .i64 i8_0))), (29, .d (.val (.bool r15)))] [some ⟨6, [[.d (.val (.int .i64 p0.op)), .d (.val (.string p0.name)), .d (.val (.bool p0.num.neg)), .d (slD u32V p0.num.num), .d (slD u32V p0.num.den), .d (slD NodeA.enc p0.kids)]]⟩] (by simp only [go_sem, reduceEqDiff, reduceAdd, reduceSub, reduceMul, reduceLeDiff, reduceLT, Nat.reduceBEq, reduceIte, (idx_some hx14).1, (idx_some hx14).2]) ?_
      refine AW.ts r15 (fun hb17 => ?_) (fun hb17 => ?_)
      · have h := ifT hb17 h
        refine AW.op mixed ?_
        refine AW.ret ?_
        obtain ⟨_, h, ho⟩ := outM_some h
        rw [ho, Out.fin_out] at hJ11
        have h := h.trans hJ11
        obtain rfl := Option.some.inj h
        refine nz ?_
        exact .same _
      have h := ifF hb17 h
      refine AW.sk ?_
      refine AW.kp [0] [1, 3] ?_
      refine AW.rg mixed ?_
      exact NextQ.ar (IntKind.wrap .i64 (i8_0 + (1 : Int))) [0] h
    have h := ifF hb12 h
    refine AW.ex ?_
    exact JoinQ.ar () [] (Option.some.inj h).symm
  rintro ⟨⟩ rfl
  have h := hJ11
  try dsimp only [Out.fin] at h
  refine nz ?_
  refine AW.kp [] [] ?_
  refine AW.op mixed ?_
  refine AW.ret ?_
  obtain rfl := Option.some.inj h
  refine nz ?_
  exact .same _
def r08_primed (K : Nat) (p0 : NodeA) : Option Bool := iter K (fun self q => r08_primed_body K self q) p0
theorem key_r08_primed {K : Nat} (k : Nat) : (∀ (q : NodeA) (r : Bool), iter k (fun self q => r08_primed_body K self q) q = some r → Cn Tryz.prog 130 [aggV q.enc] (.d (.val (.bool r)))) := by
  induction k with
  | zero => exact fun q r h => by cases h
  | succ k ih => exact fun q r h => r08_primed_step K _ ih q r h
theorem r08_primed_ok {K : Nat} {p0 : NodeA} {r : Bool} (h : r08_primed K p0 = some r) : Cn Tryz.prog 130 [aggV p0.enc] (.d (.val (.bool r))) := (key_r08_primed K) p0 r h
/-! ### isochrone/isochroneref08.well -/
def r08_well_body (K : Nat) (self102 : (NodeA × Int × Bool × Bool) → Option Bool) (self116 : (NodeA × Bool × Bool) → Option Bool) (p0 : NodeA) (p1 : Int) (p2 : Bool) (p3 : Bool) : Option Bool := ((
    ((
      (r08_Sort K p0.op).bind fun r5 => 
      if (r5 != p1) then
        some true
      else
        (r08_named K p0.op).bind fun r8 => 
        (r08_Name K p0.name).bind fun r10 => 
        if (!(r8 == r10)) then
          some true
        else
          (r08_named K p0.op).bind fun r13 => 
          if (!r13) then
            some (!(p0.name.toList == (⟨#[]⟩ : ByteArray).toList))
          else
            some false) : Option Bool).bind (fun v3_0 => 
    if v3_0 then
      outM (
        some false)
    else
      some (.go ()))) : Option (Out Unit _)).bind (Out.fin fun _ => 
  ((
    if (p0.op == (1 : Int)) then
      (r08_natural K p0.num).bind fun r20 => 
      if (!r20) then
        outM (
          some false)
      else
        some (.go ())
    else
      ((
        if p0.num.neg then
          some true
        else
          if (decide ((0 : Int) < (p0.num.num.length : Int))) then
            some true
          else
            some (decide ((0 : Int) < (p0.num.den.length : Int)))) : Option Bool).bind (fun v23_0 => 
      if v23_0 then
        outM (
          some false)
      else
        some (.go ()))) : Option (Out Unit _)).bind (Out.fin fun _ => 
  ((
    ((
      if p2 then
        if (p0.op == (12 : Int)) then
          some true
        else
          some (p0.op == (3 : Int))
      else
        if p3 then
          some (p0.op == (3 : Int))
        else
          some false) : Option Bool).bind (fun v30_0 => 
    if v30_0 then
      outM (
        some false)
    else
      some (.go ()))) : Option (Out Unit _)).bind (Out.fin fun _ => 
  if (p0.op == (54 : Int)) then
    (self116 (p0, p2, p3)).bind fun r37 => 
    some r37
  else
    (r08_kids K p0.op).bind fun r39 => 
    ((
      ((
        if (p0.op == (10 : Int)) then
          some true
        else
          some (p0.op == (37 : Int))) : Option Bool).bind (fun v43_0 => 
      if v43_0 then
        if ((p0.kids.length : Int) == (1 : Int)) then
          some (⟨#[49]⟩ : ByteArray)
        else
          some r39
      else
        some r39)) : Option ByteArray).bind (fun v41_0 => 
    if ((v41_0.size : Int) != (p0.kids.length : Int)) then
      some false
    else
      ((iter (S := Int) (R := Out Unit _) K (fun again i49_0 => 
        if (decide (i49_0 < (v41_0.size : Int))) then
          ((
            ((
              (idx p0.kids i49_0).bind fun x58 => 
              (strAt v41_0 i49_0).bind fun c60 => 
              if p2 then
                if p3 then
                  (self102 (x58, IntKind.wrap .i64 (IntKind.wrap .u8 ((c60.toNat : Int) - (48 : Int))), true, true)).bind fun r64 => 
                  some (!r64)
                else
                  (self102 (x58, IntKind.wrap .i64 (IntKind.wrap .u8 ((c60.toNat : Int) - (48 : Int))), true, (p0.op == (39 : Int)))).bind fun r66 => 
                  some (!r66)
              else
                if p3 then
                  (self102 (x58, IntKind.wrap .i64 (IntKind.wrap .u8 ((c60.toNat : Int) - (48 : Int))), (p0.op == (12 : Int)), true)).bind fun r69 => 
                  some (!r69)
                else
                  (self102 (x58, IntKind.wrap .i64 (IntKind.wrap .u8 ((c60.toNat : Int) - (48 : Int))), (p0.op == (12 : Int)), (p0.op == (39 : Int)))).bind fun r71 => 
                  some (!r71)) : Option Bool).bind (fun v56_0 => 
            if v56_0 then
              outM (
                outM (
                  some false))
            else
              some (.go ()))) : Option (Out Unit _)).bind (Out.fin fun _ => 
          again (IntKind.wrap .i64 (i49_0 + (1 : Int))))
        else
          some (.go ())) (0 : Int)) : Option (Out Unit _)).bind (Out.fin fun _ => 
      if (p0.op == (8 : Int)) then
        (idx p0.kids (1 : Int)).bind fun x75 => 
        if (x75.op == (1 : Int)) then
          some (decide ((0 : Int) < (x75.num.num.length : Int)))
        else
          some false
      else
        if (p0.op == (9 : Int)) then
          (idx p0.kids (1 : Int)).bind fun x79 => 
          if (x79.op == (1 : Int)) then
            (r08_Natural K x79.num (20 : Int)).bind fun r82 => 
            some (decide ((0 : Int) ≤ r82))
          else
            some false
        else
          if (p0.op == (39 : Int)) then
            (idx p0.kids (0 : Int)).bind fun x85 => 
            (r08_differential K x85).bind fun r87 => 
            some r87
          else
            some true)))))
set_option maxHeartbeats 4000000 in
theorem r08_well_step (K : Nat) (self102 : (NodeA × Int × Bool × Bool) → Option Bool) (self116 : (NodeA × Bool × Bool) → Option Bool) (hself102 : ∀ (q : NodeA × Int × Bool × Bool) (r : Bool), self102 q = some r → Cn Tryz.prog 102 [aggV q.1.enc, .d (.val (.int .i64 q.2.1)), .d (.val (.bool q.2.2.1)), .d (.val (.bool q.2.2.2))] (.d (.val (.bool r)))) (hself116 : ∀ (q : NodeA × Bool × Bool) (r : Bool), self116 q = some r → Cn Tryz.prog 116 [aggV q.1.enc, .d (.val (.bool q.2.1)), .d (.val (.bool q.2.2))] (.d (.val (.bool r)))) (p0 : NodeA) (p1 : Int) (p2 : Bool) (p3 : Bool) (r : Bool) (h : r08_well_body K self102 self116 p0 p1 p2 p3 = some r) : Cn Tryz.prog 102 [aggV p0.enc, .d (.val (.int .i64 p1)), .d (.val (.bool p2)), .d (.val (.bool p3))] (.d (.val (.bool r))) := by
  refine Cn.ofA mixed Tryz.func102 rfl Tryz.call102 Tryz.ntmps102 Tryz.results102 (by simp) (by simp only [go_sem, reduceEqDiff, reduceAdd, reduceSub, reduceMul, reduceLeDiff, reduceLT, Nat.reduceBEq, reduceIte]) fun hfit => ?_
  unfold r08_well_body at h
  refine AW.kp [] [0, 1, 2, 3] ?_
  refine AW.op mixed ?_
  refine AW.kp [0] [1, 2, 3, 4] ?_
  refine AW.one ?_
  refine obindE h fun oJ2 h hJ2 => ?_
  refine AW.join (S := Unit) (fun _ => [(2, .d (.val (.bool p2))), (3, .d (.val (.bool p3))), (4, .ptr 0 6 0 0)]) (fun _ => [some ⟨6, [[.d (.val (.int .i64 p0.op)), .d (.val (.string p0.name)), .d (.val (.bool p0.num.neg)), .d (slD u32V p0.num.num), .d (slD u32V p0.num.den), .d (slD NodeA.enc p0.kids)]]⟩]) (fun x => oJ2 = .go x) ?_ ?_
  · skip
    refine AW.one ?_
    refine obindE h fun oJ4 h hJ4 => ?_
    refine AW.join (S := Bool) (fun v3_0 => [(2, .d (.val (.bool p2))), (3, .d (.val (.bool p3))), (4, .ptr 0 6 0 0), (35, .d (.val (.bool v3_0)))]) (fun v3_0 => [some ⟨6, [[.d (.val (.int .i64 p0.op)), .d (.val (.string p0.name)), .d (.val (.bool p0.num.neg)), .d (slD u32V p0.num.num), .d (slD u32V p0.num.den), .d (slD NodeA.enc p0.kids)]]⟩]) (fun x => x = oJ4) ?_ ?_
    · skip
      refine AW.rg mixed ?_
      apply obindE h; intro r5 hx6 h
      have hc := nx (r08_Sort_ok (h := hx6))
      refine callD hc ?_
      refine splitK_intro (fun hb7 => ?_) (fun hb7 => ?_)
      · have h := ifT hb7 h
        try simp only [go_sem, reduceEqDiff, reduceAdd, reduceSub, reduceMul, reduceLeDiff, reduceLT, Nat.reduceBEq, reduceIte, hb7]
        refine JoinQ.mk true [0] (Option.some.inj h) (by simp only [go_sem, reduceEqDiff, reduceAdd, reduceSub, reduceMul, reduceLeDiff, reduceLT, Nat.reduceBEq, reduceIte, hb7])
      have h := ifF hb7 h
      try simp only [go_sem, reduceEqDiff, reduceAdd, reduceSub, reduceMul, reduceLeDiff, reduceLT, Nat.reduceBEq, reduceIte, hb7]
      apply obindE h; intro r8 hx9 h
      have hc := nx (r08_named_ok (h := hx9))
      refine pcallK_intro hc (by simp only [go_sem, reduceEqDiff, reduceAdd, reduceSub, reduceMul, reduceLeDiff, reduceLT, Nat.reduceBEq, reduceIte]) ?_
      try simp only [go_sem, reduceEqDiff, reduceAdd, reduceSub, reduceMul, reduceLeDiff, reduceLT, Nat.reduceBEq, reduceIte, hb7]
      apply obindE h; intro r10 hx11 h
      have hc := nx (r08_Name_ok (h := hx11))
      refine pcallK_intro hc (by simp only [go_sem, reduceEqDiff, reduceAdd, reduceSub, reduceMul, reduceLeDiff, reduceLT, Nat.reduceBEq, reduceIte]) ?_
      try simp only [go_sem, reduceEqDiff, reduceAdd, reduceSub, reduceMul, reduceLeDiff, reduceLT, Nat.reduceBEq, reduceIte, hb7]
      refine splitK_intro (fun hb12 => ?_) (fun hb12 => ?_)
      · have h := ifT hb12 h
        try simp only [go_sem, reduceEqDiff, reduceAdd, reduceSub, reduceMul, reduceLeDiff, reduceLT, Nat.reduceBEq, reduceIte, hb7, hb12]
        refine JoinQ.mk true [0] (Option.some.inj h) (by simp only [go_sem, reduceEqDiff, reduceAdd, reduceSub, reduceMul, reduceLeDiff, reduceLT, Nat.reduceBEq, reduceIte, hb7, hb12])
      have h := ifF hb12 h
      try simp only [go_sem, reduceEqDiff, reduceAdd, reduceSub, reduceMul, reduceLeDiff, reduceLT, Nat.reduceBEq, reduceIte, hb7, hb12]
      apply obindE h; intro r13 hx14 h
      have hc := nx (r08_named_ok (h := hx14))
      refine pcallK_intro hc (by simp only [go_sem, reduceEqDiff, reduceAdd, reduceSub, reduceMul, reduceLeDiff, reduceLT, Nat.reduceBEq, reduceIte]) ?_
      try simp only [go_sem, reduceEqDiff, reduceAdd, reduceSub, reduceMul, reduceLeDiff, reduceLT, Nat.reduceBEq, reduceIte, hb7, hb12]
      refine splitK_intro (fun hb15 => ?_) (fun hb15 => ?_)
      · have h := ifT hb15 h
        try simp only [go_sem, reduceEqDiff, reduceAdd, reduceSub, reduceMul, reduceLeDiff, reduceLT, Nat.reduceBEq, reduceIte, hb7, hb12, hb15]
        refine JoinQ.mk (!(p0.name.toList == (⟨#[]⟩ : ByteArray).toList)) [0] (Option.some.inj h) (by simp only [go_sem, reduceEqDiff, reduceAdd, reduceSub, reduceMul, reduceLeDiff, reduceLT, Nat.reduceBEq, reduceIte, hb7, hb12, hb15])
      have h := ifF hb15 h
      try simp only [go_sem, reduceEqDiff, reduceAdd, reduceSub, reduceMul, reduceLeDiff, reduceLT, Nat.reduceBEq, reduceIte, hb7, hb12, hb15]
      refine JoinQ.mk false [0] (Option.some.inj h) (by simp only [go_sem, reduceEqDiff, reduceAdd, reduceSub, reduceMul, reduceLeDiff, reduceLT, Nat.reduceBEq, reduceIte, hb7, hb12, hb15])
    rintro v3_0 rfl
    have h := hJ4
    try dsimp only [Out.fin] at h
    refine nz ?_
    refine AW.ts v3_0 (fun hb16 => ?_) (fun hb16 => ?_)
    · have h := ifT hb16 h
      refine AW.op mixed ?_
      refine AW.ret ?_
      obtain ⟨_, h, ho⟩ := outM_some h
      rw [ho, Out.fin_out] at hJ2
      have h := h.trans hJ2
      obtain rfl := Option.some.inj h
      refine nz ?_
      exact .same _
    have h := ifF hb16 h
    refine AW.sk ?_
    exact JoinQ.ar () [0] (Option.some.inj h).symm
  rintro ⟨⟩ rfl
  have h := hJ2
  try dsimp only [Out.fin] at h
  refine nz ?_
  refine AW.one ?_
  refine obindE h fun oJ18 h hJ18 => ?_
  refine AW.join (S := Unit) (fun _ => [(2, .d (.val (.bool p2))), (3, .d (.val (.bool p3))), (4, .ptr 0 6 0 0)]) (fun _ => [some ⟨6, [[.d (.val (.int .i64 p0.op)), .d (.val (.string p0.name)), .d (.val (.bool p0.num.neg)), .d (slD u32V p0.num.num), .d (slD u32V p0.num.den), .d (slD NodeA.enc p0.kids)]]⟩]) (fun x => oJ18 = .go x) ?_ ?_
  · skip
    refine AW.op mixed ?_
    refine AW.kp [0] [2, 3, 4, 38] ?_
    refine AW.ts (p0.op == (1 : Int)) (fun hb19 => ?_) (fun hb19 => ?_)
    · have h := ifT hb19 h
      refine AW.op mixed ?_
      apply obindE h; intro r20 hx21 h
      have hc := nx (r08_natural_ok (h := hx21))
      refine callP hc ?_
      refine AW.kp [0] [2, 3, 4, 42] ?_
      refine AW.ts (!r20) (fun hb22 => ?_) (fun hb22 => ?_)
      · have h := ifT hb22 h
        refine AW.op mixed ?_
        refine AW.ret ?_
        obtain ⟨_, h, ho⟩ := outM_some h
        rw [ho, Out.fin_out] at hJ18
        have h := h.trans hJ18
        obtain rfl := Option.some.inj h
        refine nz ?_
        exact .same _
      have h := ifF hb22 h
      refine AW.sk ?_
      exact JoinQ.ar () [0] (Option.some.inj h).symm
    have h := ifF hb19 h
    refine AW.one ?_
    refine obindE h fun oJ24 h hJ24 => ?_
    refine AW.join (S := Bool) (fun v23_0 => [(2, .d (.val (.bool p2))), (3, .d (.val (.bool p3))), (4, .ptr 0 6 0 0), (59, .d (.val (.bool v23_0)))]) (fun v23_0 => [some ⟨6, [[.d (.val (.int .i64 p0.op)), .d (.val (.string p0.name)), .d (.val (.bool p0.num.neg)), .d (slD u32V p0.num.num), .d (slD u32V p0.num.den), .d (slD NodeA.enc p0.kids)]]⟩]) (fun x => x = oJ24) ?_ ?_
    · skip
      refine AW.rg mixed ?_
      refine splitK_intro (fun hb25 => ?_) (fun hb25 => ?_)
      · have h := ifT hb25 h
        try simp only [go_sem, reduceEqDiff, reduceAdd, reduceSub, reduceMul, reduceLeDiff, reduceLT, Nat.reduceBEq, reduceIte, hb25]
        refine JoinQ.mk true [0] (Option.some.inj h) (by simp only [go_sem, reduceEqDiff, reduceAdd, reduceSub, reduceMul, reduceLeDiff, reduceLT, Nat.reduceBEq, reduceIte, hb25])
      have h := ifF hb25 h
      try simp only [go_sem, reduceEqDiff, reduceAdd, reduceSub, reduceMul, reduceLeDiff, reduceLT, Nat.reduceBEq, reduceIte, hb25]
      refine splitK_intro (fun hb26 => ?_) (fun hb26 => ?_)
      · have h := ifT hb26 h
        try simp only [go_sem, reduceEqDiff, reduceAdd, reduceSub, reduceMul, reduceLeDiff, reduceLT, Nat.reduceBEq, reduceIte, hb25, hb26]
        refine JoinQ.mk true [0] (Option.some.inj h) (by simp only [go_sem, reduceEqDiff, reduceAdd, reduceSub, reduceMul, reduceLeDiff, reduceLT, Nat.reduceBEq, reduceIte, hb25, hb26])
      have h := ifF hb26 h
      try simp only [go_sem, reduceEqDiff, reduceAdd, reduceSub, reduceMul, reduceLeDiff, reduceLT, Nat.reduceBEq, reduceIte, hb25, hb26]
      refine JoinQ.mk (decide ((0 : Int) < (p0.num.den.length : Int))) [0] (Option.some.inj h) (by simp only [go_sem, reduceEqDiff, reduceAdd, reduceSub, reduceMul, reduceLeDiff, reduceLT, Nat.reduceBEq, reduceIte, hb25, hb26])
    rintro v23_0 rfl
    have h := hJ24
    try dsimp only [Out.fin] at h
    refine nz ?_
    refine AW.ts v23_0 (fun hb27 => ?_) (fun hb27 => ?_)
    · have h := ifT hb27 h
      refine AW.op mixed ?_
      refine AW.ret ?_
      obtain ⟨_, h, ho⟩ := outM_some h
      rw [ho, Out.fin_out] at hJ18
      have h := h.trans hJ18
      obtain rfl := Option.some.inj h
      refine nz ?_
      exact .same _
    have h := ifF hb27 h
    refine AW.sk ?_
    exact JoinQ.ar () [0] (Option.some.inj h).symm
  rintro ⟨⟩ rfl
  have h := hJ18
  try dsimp only [Out.fin] at h
  refine nz ?_
  refine AW.one ?_
  refine obindE h fun oJ29 h hJ29 => ?_
  refine AW.join (S := Unit) (fun _ => [(2, .d (.val (.bool p2))), (3, .d (.val (.bool p3))), (4, .ptr 0 6 0 0)]) (fun _ => [some ⟨6, [[.d (.val (.int .i64 p0.op)), .d (.val (.string p0.name)), .d (.val (.bool p0.num.neg)), .d (slD u32V p0.num.num), .d (slD u32V p0.num.den), .d (slD NodeA.enc p0.kids)]]⟩]) (fun x => oJ29 = .go x) ?_ ?_
  · skip
    refine AW.one ?_
    refine obindE h fun oJ31 h hJ31 => ?_
    refine AW.join (S := Bool) (fun v30_0 => [(2, .d (.val (.bool p2))), (3, .d (.val (.bool p3))), (4, .ptr 0 6 0 0), (76, .d (.val (.bool v30_0)))]) (fun v30_0 => [some ⟨6, [[.d (.val (.int .i64 p0.op)), .d (.val (.string p0.name)), .d (.val (.bool p0.num.neg)), .d (slD u32V p0.num.num), .d (slD u32V p0.num.den), .d (slD NodeA.enc p0.kids)]]⟩]) (fun x => x = oJ31) ?_ ?_
    · skip
      refine AW.rg mixed ?_
      refine splitK_intro (fun hb32 => ?_) (fun hb32 => ?_)
      · have h := ifT hb32 h
        try simp only [go_sem, reduceEqDiff, reduceAdd, reduceSub, reduceMul, reduceLeDiff, reduceLT, Nat.reduceBEq, reduceIte, hb32]
        refine splitK_intro (fun hb33 => ?_) (fun hb33 => ?_)
        · have h := ifT hb33 h
          try simp only [go_sem, reduceEqDiff, reduceAdd, reduceSub, reduceMul, reduceLeDiff, reduceLT, Nat.reduceBEq, reduceIte, hb32, hb33]
          refine JoinQ.mk true [0] (Option.some.inj h) (by simp only [go_sem, reduceEqDiff, reduceAdd, reduceSub, reduceMul, reduceLeDiff, reduceLT, Nat.reduceBEq, reduceIte, hb32, hb33])
        have h := ifF hb33 h
        try simp only [go_sem, reduceEqDiff, reduceAdd, reduceSub, reduceMul, reduceLeDiff, reduceLT, Nat.reduceBEq, reduceIte, hb32, hb33]
        refine JoinQ.mk (p0.op == (3 : Int)) [0] (Option.some.inj h) (by simp only [go_sem, reduceEqDiff, reduceAdd, reduceSub, reduceMul, reduceLeDiff, reduceLT, Nat.reduceBEq, reduceIte, hb32, hb33])
      have h := ifF hb32 h
      try simp only [go_sem, reduceEqDiff, reduceAdd, reduceSub, reduceMul, reduceLeDiff, reduceLT, Nat.reduceBEq, reduceIte, hb32]
      refine splitK_intro (fun hb34 => ?_) (fun hb34 => ?_)
      · have h := ifT hb34 h
        try simp only [go_sem, reduceEqDiff, reduceAdd, reduceSub, reduceMul, reduceLeDiff, reduceLT, Nat.reduceBEq, reduceIte, hb32, hb34]
        refine JoinQ.mk (p0.op == (3 : Int)) [0] (Option.some.inj h) (by simp only [go_sem, reduceEqDiff, reduceAdd, reduceSub, reduceMul, reduceLeDiff, reduceLT, Nat.reduceBEq, reduceIte, hb32, hb34])
      have h := ifF hb34 h
      try simp only [go_sem, reduceEqDiff, reduceAdd, reduceSub, reduceMul, reduceLeDiff, reduceLT, Nat.reduceBEq, reduceIte, hb32, hb34]
      refine JoinQ.mk false [0] (Option.some.inj h) (by simp only [go_sem, reduceEqDiff, reduceAdd, reduceSub, reduceMul, reduceLeDiff, reduceLT, Nat.reduceBEq, reduceIte, hb32, hb34])
    rintro v30_0 rfl
    have h := hJ31
    try dsimp only [Out.fin] at h
    refine nz ?_
    refine AW.ts v30_0 (fun hb35 => ?_) (fun hb35 => ?_)
    · have h := ifT hb35 h
      refine AW.op mixed ?_
      refine AW.ret ?_
      obtain ⟨_, h, ho⟩ := outM_some h
      rw [ho, Out.fin_out] at hJ29
      have h := h.trans hJ29
      obtain rfl := Option.some.inj h
      refine nz ?_
      exact .same _
    have h := ifF hb35 h
    refine AW.sk ?_
    exact JoinQ.ar () [0] (Option.some.inj h).symm
  rintro ⟨⟩ rfl
  have h := hJ29
  try dsimp only [Out.fin] at h
  refine nz ?_
  refine AW.one ?_
  refine AW.op mixed ?_
  refine AW.kp [0] [2, 3, 4, 79] ?_
  refine AW.ts (p0.op == (54 : Int)) (fun hb36 => ?_) (fun hb36 => ?_)
  · have h := ifT hb36 h
    refine AW.op mixed ?_
    apply obindE h; intro r37 hx38 h
    have hc := nx (hself116 _ _ hx38)
    refine callP hc ?_
    refine AW.ret ?_
    obtain rfl := Option.some.inj h
    refine nz ?_
    exact .same _
  have h := ifF hb36 h
  refine AW.sk ?_
  refine AW.kp [0] [2, 3, 4] ?_
  refine AW.op mixed ?_
  apply obindE h; intro r39 hx40 h
  have hc := nx (r08_kids_ok (h := hx40))
  refine callP hc ?_
  refine AW.kp [0] [2, 3, 4, 9] ?_
  refine AW.one ?_
  refine obindE h fun oJ42 h hJ42 => ?_
  refine AW.join (S := ByteArray) (fun v41_0 => [(2, .d (.val (.bool p2))), (3, .d (.val (.bool p3))), (4, .ptr 0 6 0 0), (9, .d (.val (.string v41_0)))]) (fun v41_0 => [some ⟨6, [[.d (.val (.int .i64 p0.op)), .d (.val (.string p0.name)), .d (.val (.bool p0.num.neg)), .d (slD u32V p0.num.num), .d (slD u32V p0.num.den), .d (slD NodeA.enc p0.kids)]]⟩]) (fun x => x = oJ42) ?_ ?_
  · skip
    refine AW.one ?_
    refine obindE h fun oJ44 h hJ44 => ?_
    refine AW.join (S := Bool) (fun v43_0 => [(2, .d (.val (.bool p2))), (3, .d (.val (.bool p3))), (4, .ptr 0 6 0 0), (9, .d (.val (.string r39))), (94, .d (.val (.bool v43_0)))]) (fun v43_0 => [some ⟨6, [[.d (.val (.int .i64 p0.op)), .d (.val (.string p0.name)), .d (.val (.bool p0.num.neg)), .d (slD u32V p0.num.num), .d (slD u32V p0.num.den), .d (slD NodeA.enc p0.kids)]]⟩]) (fun x => x = oJ44) ?_ ?_
    · skip
      refine AW.rg mixed ?_
      refine splitK_intro (fun hb45 => ?_) (fun hb45 => ?_)
      · have h := ifT hb45 h
        try simp only [go_sem, reduceEqDiff, reduceAdd, reduceSub, reduceMul, reduceLeDiff, reduceLT, Nat.reduceBEq, reduceIte, hb45]
        refine JoinQ.mk true [0] (Option.some.inj h) (by simp only [go_sem, reduceEqDiff, reduceAdd, reduceSub, reduceMul, reduceLeDiff, reduceLT, Nat.reduceBEq, reduceIte, hb45])
      have h := ifF hb45 h
      try simp only [go_sem, reduceEqDiff, reduceAdd, reduceSub, reduceMul, reduceLeDiff, reduceLT, Nat.reduceBEq, reduceIte, hb45]
      refine JoinQ.mk (p0.op == (37 : Int)) [0] (Option.some.inj h) (by simp only [go_sem, reduceEqDiff, reduceAdd, reduceSub, reduceMul, reduceLeDiff, reduceLT, Nat.reduceBEq, reduceIte, hb45])
    rintro v43_0 rfl
    have h := hJ44
    try dsimp only [Out.fin] at h
    refine nz ?_
    refine AW.ts v43_0 (fun hb46 => ?_) (fun hb46 => ?_)
    · have h := ifT hb46 h
      refine AW.op mixed ?_
      refine AW.kp [0] [2, 3, 4, 9, 98] ?_
      refine AW.ts ((p0.kids.length : Int) == (1 : Int)) (fun hb47 => ?_) (fun hb47 => ?_)
      · have h := ifT hb47 h
        refine AW.rg mixed ?_
        exact JoinQ.ar (⟨#[49]⟩ : ByteArray) [0] (Option.some.inj h)
      have h := ifF hb47 h
      refine AW.sk ?_
      exact JoinQ.ar r39 [0] (Option.some.inj h)
    have h := ifF hb46 h
    refine AW.sk ?_
    exact JoinQ.ar r39 [0] (Option.some.inj h)
  rintro v41_0 rfl
  have h := hJ42
  try dsimp only [Out.fin] at h
  refine nz ?_
  refine AW.one ?_
  refine AW.op mixed ?_
  refine AW.kp [0] [2, 3, 4, 9, 104] ?_
  refine AW.ts ((v41_0.size : Int) != (p0.kids.length : Int)) (fun hb48 => ?_) (fun hb48 => ?_)
  · have h := ifT hb48 h
    refine AW.op mixed ?_
    refine AW.ret ?_
    obtain rfl := Option.some.inj h
    refine nz ?_
    exact .same _
  have h := ifF hb48 h
  refine AW.sk ?_
  refine AW.kp [0] [2, 3, 4, 9] ?_
  refine AW.one ?_
  refine AW.op mixed ?_
  refine AW.kp [0] [2, 3, 4, 9, 10] ?_
  refine obindE h fun oJ52 h hJ52 => ?_
  refine AW.join (S := Unit) (fun _ => [(4, .ptr 0 6 0 0)]) (fun _ => [some ⟨6, [[.d (.val (.int .i64 p0.op)), .d (.val (.string p0.name)), .d (.val (.bool p0.num.neg)), .d (slD u32V p0.num.num), .d (slD u32V p0.num.den), .d (slD NodeA.enc p0.kids)]]⟩]) (fun x => oJ52 = .go x) ?_ ?_
  · refine AW.block ?_
    refine AW.iter (S := Int) (fun i49_0 => [(2, .d (.val (.bool p2))), (3, .d (.val (.bool p3))), (4, .ptr 0 6 0 0), (9, .d (.val (.string v41_0))), (10, .d (.val (.int .i64 i49_0)))]) (fun i49_0 => [some ⟨6, [[.d (.val (.int .i64 p0.op)), .d (.val (.string p0.name)), .d (.val (.bool p0.num.neg)), .d (slD u32V p0.num.num), .d (slD u32V p0.num.den), .d (slD NodeA.enc p0.kids)]]⟩]) [0] h (by simp only [go_sem, reduceEqDiff, reduceAdd, reduceSub, reduceMul, reduceLeDiff, reduceLT, Nat.reduceBEq, reduceIte]) ?_
    rintro again i49_0 h
    try dsimp only at h
    refine AW.one ?_
    refine AW.op mixed ?_
    refine AW.kp [0] [2, 3, 4, 9, 10, 108] ?_
    refine AW.ts (decide (i49_0 < (v41_0.size : Int))) (fun hb53 => ?_) (fun hb53 => ?_)
    · have h := ifT hb53 h
      refine AW.sk ?_
      refine AW.kp [0] [2, 3, 4, 9, 10] ?_
      refine AW.one ?_
      refine obindE h fun oJ55 h hJ55 => ?_
      refine AW.join (S := Unit) (fun _ => [(2, .d (.val (.bool p2))), (3, .d (.val (.bool p3))), (4, .ptr 0 6 0 0), (9, .d (.val (.string v41_0))), (10, .d (.val (.int .i64 i49_0)))]) (fun _ => [some ⟨6, [[.d (.val (.int .i64 p0.op)), .d (.val (.string p0.name)), .d (.val (.bool p0.num.neg)), .d (slD u32V p0.num.num), .d (slD u32V p0.num.den), .d (slD NodeA.enc p0.kids)]]⟩]) (fun x => oJ55 = .go x) ?_ ?_
      · skip
        refine AW.block ?_
        refine AW.one ?_
        refine obindE h fun oJ57 h hJ57 => ?_
        refine AW.join (S := Bool) (fun v56_0 => [(2, .d (.val (.bool p2))), (3, .d (.val (.bool p3))), (4, .ptr 0 6 0 0), (9, .d (.val (.string v41_0))), (10, .d (.val (.int .i64 i49_0))), (134, .d (.val (.bool v56_0)))]) (fun v56_0 => [some ⟨6, [[.d (.val (.int .i64 p0.op)), .d (.val (.string p0.name)), .d (.val (.bool p0.num.neg)), .d (slD u32V p0.num.num), .d (slD u32V p0.num.den), .d (slD NodeA.enc p0.kids)]]⟩]) (fun x => x = oJ57) ?_ ?_
        · skip
          refine AW.reg mixed (by kernel_rfl) ?_
          apply obindE h; intro x58 hx59 h
          apply obindE h; intro c60 hx61 h
          try simp only [go_sem, reduceEqDiff, reduceAdd, reduceSub, reduceMul, reduceLeDiff, reduceLT, Nat.reduceBEq, reduceIte, (idx_some hx59).1, (idx_some hx59).2, hx61, cv_int (P := Tryz.prog) Tryz.underlying5 Tryz.underlying3]
          refine splitK_intro (fun hb62 => ?_) (fun hb62 => ?_)
          · have h := ifT hb62 h
            try simp only [go_sem, reduceEqDiff, reduceAdd, reduceSub, reduceMul, reduceLeDiff, reduceLT, Nat.reduceBEq, reduceIte, (idx_some hx59).1, (idx_some hx59).2, hx61, cv_int (P := Tryz.prog) Tryz.underlying5 Tryz.underlying3, hb62]
            refine splitK_intro (fun hb63 => ?_) (fun hb63 => ?_)
            · have h := ifT hb63 h
              try simp only [go_sem, reduceEqDiff, reduceAdd, reduceSub, reduceMul, reduceLeDiff, reduceLT, Nat.reduceBEq, reduceIte, (idx_some hx59).1, (idx_some hx59).2, hx61, cv_int (P := Tryz.prog) Tryz.underlying5 Tryz.underlying3, hb62, hb63]
              apply obindE h; intro r64 hx65 h
              have hc := nx (hself102 _ _ hx65)
              refine pcallK_intro hc (by simp only [go_sem, reduceEqDiff, reduceAdd, reduceSub, reduceMul, reduceLeDiff, reduceLT, Nat.reduceBEq, reduceIte]) ?_
              try simp only [go_sem, reduceEqDiff, reduceAdd, reduceSub, reduceMul, reduceLeDiff, reduceLT, Nat.reduceBEq, reduceIte, (idx_some hx59).1, (idx_some hx59).2, hx61, cv_int (P := Tryz.prog) Tryz.underlying5 Tryz.underlying3, hb62, hb63]
              refine JoinQ.mk (!r64) [0] (Option.some.inj h) (by simp only [go_sem, reduceEqDiff, reduceAdd, reduceSub, reduceMul, reduceLeDiff, reduceLT, Nat.reduceBEq, reduceIte, (idx_some hx59).1, (idx_some hx59).2, hx61, cv_int (P := Tryz.prog) Tryz.underlying5 Tryz.underlying3, hb62, hb63])
            have h := ifF hb63 h
            try simp only [go_sem, reduceEqDiff, reduceAdd, reduceSub, reduceMul, reduceLeDiff, reduceLT, Nat.reduceBEq, reduceIte, (idx_some hx59).1, (idx_some hx59).2, hx61, cv_int (P := Tryz.prog) Tryz.underlying5 Tryz.underlying3, hb62, hb63]
            apply obindE h; intro r66 hx67 h
            have hc := nx (hself102 _ _ hx67)
            refine pcallK_intro hc (by simp only [go_sem, reduceEqDiff, reduceAdd, reduceSub, reduceMul, reduceLeDiff, reduceLT, Nat.reduceBEq, reduceIte]) ?_
            try simp only [go_sem, reduceEqDiff, reduceAdd, reduceSub, reduceMul, reduceLeDiff, reduceLT, Nat.reduceBEq, reduceIte, (idx_some hx59).1, (idx_some hx59).2, hx61, cv_int (P := Tryz.prog) Tryz.underlying5 Tryz.underlying3, hb62, hb63]
            refine JoinQ.mk (!r66) [0] (Option.some.inj h) (by simp only [go_sem, reduceEqDiff, reduceAdd, reduceSub, reduceMul, reduceLeDiff, reduceLT, Nat.reduceBEq, reduceIte, (idx_some hx59).1, (idx_some hx59).2, hx61, cv_int (P := Tryz.prog) Tryz.underlying5 Tryz.underlying3, hb62, hb63])
          have h := ifF hb62 h
          try simp only [go_sem, reduceEqDiff, reduceAdd, reduceSub, reduceMul, reduceLeDiff, reduceLT, Nat.reduceBEq, reduceIte, (idx_some hx59).1, (idx_some hx59).2, hx61, cv_int (P := Tryz.prog) Tryz.underlying5 Tryz.underlying3, hb62]
          refine splitK_intro (fun hb68 => ?_) (fun hb68 => ?_)
          · have h := ifT hb68 h
            try simp only [go_sem, reduceEqDiff, reduceAdd, reduceSub, reduceMul, reduceLeDiff, reduceLT, Nat.reduceBEq, reduceIte, (idx_some hx59).1, (idx_some hx59).2, hx61, cv_int (P := Tryz.prog) Tryz.underlying5 Tryz.underlying3, hb62, hb68]
            apply obindE h; intro r69 hx70 h
            have hc := nx (hself102 _ _ hx70)
            refine pcallK_intro hc (by simp only [go_sem, reduceEqDiff, reduceAdd, reduceSub, reduceMul, reduceLeDiff, reduceLT, Nat.reduceBEq, reduceIte]) ?_
            try simp only [go_sem, reduceEqDiff, reduceAdd, reduceSub, reduceMul, reduceLeDiff, reduceLT, Nat.reduceBEq, reduceIte, (idx_some hx59).1, (idx_some hx59).2, hx61, cv_int (P := Tryz.prog) Tryz.underlying5 Tryz.underlying3, hb62, hb68]
            refine JoinQ.mk (!r69) [0] (Option.some.inj h) (by simp only [go_sem, reduceEqDiff, reduceAdd, reduceSub, reduceMul, reduceLeDiff, reduceLT, Nat.reduceBEq, reduceIte, (idx_some hx59).1, (idx_some hx59).2, hx61, cv_int (P := Tryz.prog) Tryz.underlying5 Tryz.underlying3, hb62, hb68])
          have h := ifF hb68 h
          try simp only [go_sem, reduceEqDiff, reduceAdd, reduceSub, reduceMul, reduceLeDiff, reduceLT, Nat.reduceBEq, reduceIte, (idx_some hx59).1, (idx_some hx59).2, hx61, cv_int (P := Tryz.prog) Tryz.underlying5 Tryz.underlying3, hb62, hb68]
          apply obindE h; intro r71 hx72 h
          have hc := nx (hself102 _ _ hx72)
          refine pcallK_intro hc (by simp only [go_sem, reduceEqDiff, reduceAdd, reduceSub, reduceMul, reduceLeDiff, reduceLT, Nat.reduceBEq, reduceIte]) ?_
          try simp only [go_sem, reduceEqDiff, reduceAdd, reduceSub, reduceMul, reduceLeDiff, reduceLT, Nat.reduceBEq, reduceIte, (idx_some hx59).1, (idx_some hx59).2, hx61, cv_int (P := Tryz.prog) Tryz.underlying5 Tryz.underlying3, hb62, hb68]
          refine JoinQ.mk (!r71) [0] (Option.some.inj h) (by simp only [go_sem, reduceEqDiff, reduceAdd, reduceSub, reduceMul, reduceLeDiff, reduceLT, Nat.reduceBEq, reduceIte, (idx_some hx59).1, (idx_some hx59).2, hx61, cv_int (P := Tryz.prog) Tryz.underlying5 Tryz.underlying3, hb62, hb68])
        rintro v56_0 rfl
        have h := hJ57
        try dsimp only [Out.fin] at h
        refine nz ?_
        refine AW.ts v56_0 (fun hb73 => ?_) (fun hb73 => ?_)
        · have h := ifT hb73 h
          refine AW.op mixed ?_
          refine AW.ret ?_
          obtain ⟨_, h, ho⟩ := outM_some h
          rw [ho, Out.fin_out] at hJ55
          have h := h.trans hJ55
          obtain ⟨_, h, ho⟩ := outM_some h
          rw [ho, Out.fin_out] at hJ52
          have h := h.trans hJ52
          obtain rfl := Option.some.inj h
          refine nz ?_
          exact .same _
        have h := ifF hb73 h
        refine AW.sk ?_
        exact JoinQ.ar () [0] (Option.some.inj h).symm
      rintro ⟨⟩ rfl
      have h := hJ55
      try dsimp only [Out.fin] at h
      refine nz ?_
      refine AW.rg mixed ?_
      exact NextQ.ar (IntKind.wrap .i64 (i49_0 + (1 : Int))) [0] h
    have h := ifF hb53 h
    refine AW.ex ?_
    exact JoinQ.ar () [0] (Option.some.inj h).symm
  rintro ⟨⟩ rfl
  have h := hJ52
  try dsimp only [Out.fin] at h
  refine nz ?_
  refine AW.kp [0] [4] ?_
  refine AW.one ?_
  refine AW.op mixed ?_
  refine AW.kp [0] [4, 136] ?_
  refine AW.block ?_
  refine AW.op mixed ?_
  refine AW.kp [0] [4, 136, 137] ?_
  refine AW.ts (p0.op == (8 : Int)) (fun hb74 => ?_) (fun hb74 => ?_)
  · have h := ifT hb74 h
    refine AW.one ?_
    refine AW.reg mixed (by kernel_rfl) ?_
    apply obindE h; intro x75 hx76 h
    try simp only [go_sem, reduceEqDiff, reduceAdd, reduceSub, reduceMul, reduceLeDiff, reduceLT, Nat.reduceBEq, reduceIte, (idx_some hx76).1, (idx_some hx76).2]
    refine splitK_intro (fun hb77 => ?_) (fun hb77 => ?_)
    · have h := ifT hb77 h
      try simp only [go_sem, reduceEqDiff, reduceAdd, reduceSub, reduceMul, reduceLeDiff, reduceLT, Nat.reduceBEq, reduceIte, (idx_some hx76).1, (idx_some hx76).2, hb77]
      refine AW.ret ?_
      obtain rfl := Option.some.inj h
      refine nz ?_
      exact .same _
    have h := ifF hb77 h
    try simp only [go_sem, reduceEqDiff, reduceAdd, reduceSub, reduceMul, reduceLeDiff, reduceLT, Nat.reduceBEq, reduceIte, (idx_some hx76).1, (idx_some hx76).2, hb77]
    refine AW.ret ?_
    obtain rfl := Option.some.inj h
    refine nz ?_
    exact .same _
  have h := ifF hb74 h
  refine AW.op mixed ?_
  refine AW.kp [0] [4, 136, 155] ?_
  refine AW.ts (p0.op == (9 : Int)) (fun hb78 => ?_) (fun hb78 => ?_)
  · have h := ifT hb78 h
    refine AW.one ?_
    refine AW.reg mixed (by kernel_rfl) ?_
    apply obindE h; intro x79 hx80 h
    try simp only [go_sem, reduceEqDiff, reduceAdd, reduceSub, reduceMul, reduceLeDiff, reduceLT, Nat.reduceBEq, reduceIte, (idx_some hx80).1, (idx_some hx80).2]
    refine splitK_intro (fun hb81 => ?_) (fun hb81 => ?_)
    · have h := ifT hb81 h
      try simp only [go_sem, reduceEqDiff, reduceAdd, reduceSub, reduceMul, reduceLeDiff, reduceLT, Nat.reduceBEq, reduceIte, (idx_some hx80).1, (idx_some hx80).2, hb81]
      apply obindE h; intro r82 hx83 h
      have hc := nx (r08_Natural_ok (h := hx83))
      refine callK_pure hc (by simp only [go_sem, reduceEqDiff, reduceAdd, reduceSub, reduceMul, reduceLeDiff, reduceLT, Nat.reduceBEq, reduceIte]) ?_
      try simp only [go_sem, reduceEqDiff, reduceAdd, reduceSub, reduceMul, reduceLeDiff, reduceLT, Nat.reduceBEq, reduceIte, (idx_some hx80).1, (idx_some hx80).2, hb81]
      refine AW.ret ?_
      obtain rfl := Option.some.inj h
      refine nz ?_
      exact .same _
    have h := ifF hb81 h
    try simp only [go_sem, reduceEqDiff, reduceAdd, reduceSub, reduceMul, reduceLeDiff, reduceLT, Nat.reduceBEq, reduceIte, (idx_some hx80).1, (idx_some hx80).2, hb81]
    refine AW.ret ?_
    obtain rfl := Option.some.inj h
    refine nz ?_
    exact .same _
  have h := ifF hb78 h
  refine AW.op mixed ?_
  refine AW.kp [0] [4, 172] ?_
  refine AW.ts (p0.op == (39 : Int)) (fun hb84 => ?_) (fun hb84 => ?_)
  · have h := ifT hb84 h
    refine AW.one ?_
    refine AW.reg mixed (by kernel_rfl) ?_
    apply obindE h; intro x85 hx86 h
    try simp only [go_sem, reduceEqDiff, reduceAdd, reduceSub, reduceMul, reduceLeDiff, reduceLT, Nat.reduceBEq, reduceIte, (idx_some hx86).1, (idx_some hx86).2]
    apply obindE h; intro r87 hx88 h
    have hc := nx (r08_differential_ok (h := hx88))
    refine callK_pure hc (by simp only [go_sem, reduceEqDiff, reduceAdd, reduceSub, reduceMul, reduceLeDiff, reduceLT, Nat.reduceBEq, reduceIte]) ?_
    try simp only [go_sem, reduceEqDiff, reduceAdd, reduceSub, reduceMul, reduceLeDiff, reduceLT, Nat.reduceBEq, reduceIte, (idx_some hx86).1, (idx_some hx86).2]
    refine AW.ret ?_
    obtain rfl := Option.some.inj h
    refine nz ?_
    exact .same _
  have h := ifF hb84 h
  refine AW.sk ?_
  refine AW.kp [] [] ?_
  refine AW.op mixed ?_
  refine AW.ret ?_
  obtain rfl := Option.some.inj h
  refine nz ?_
  exact .same _
/-! ### isochrone/isochroneref08.flow -/
def r08_flow_body (K : Nat) (self102 : (NodeA × Int × Bool × Bool) → Option Bool) (self116 : (NodeA × Bool × Bool) → Option Bool) (p0 : NodeA) (p1 : Bool) (p2 : Bool) : Option Bool := ((
    ((
      if (decide ((p0.kids.length : Int) < (2 : Int))) then
        some true
      else
        (r08_primed K p0).bind fun r6 => 
        if r6 then
          some true
        else
          (idx p0.kids (IntKind.wrap .i64 ((p0.kids.length : Int) - (1 : Int)))).bind fun x9 => 
          (self102 (x9, (2 : Int), p1, p2)).bind fun r11 => 
          some (!r11)) : Option Bool).bind (fun v3_0 => 
    if v3_0 then
      outM (
        some false)
    else
      some (.go ()))) : Option (Out Unit _)).bind (Out.fin fun _ => 
  ((iter (S := Int) (R := Out Unit _) K (fun again i14_0 => 
    if (decide (i14_0 < (IntKind.wrap .i64 ((p0.kids.length : Int) - (1 : Int))))) then
      ((
        (idx p0.kids i14_0).bind fun x21 => 
        ((
          ((
            if (x21.op == (56 : Int)) then
              if (decide (i14_0 < (IntKind.wrap .i64 ((p0.kids.length : Int) - (2 : Int))))) then
                some true
              else
                if (x21.op != (56 : Int)) then
                  if (x21.op != (55 : Int)) then
                    some true
                  else
                    (self102 (x21, (4 : Int), p1, p2)).bind fun r31 => 
                    some (!r31)
                else
                  (self102 (x21, (4 : Int), p1, p2)).bind fun r33 => 
                  some (!r33)
            else
              if (x21.op != (56 : Int)) then
                if (x21.op != (55 : Int)) then
                  some true
                else
                  (self102 (x21, (4 : Int), p1, p2)).bind fun r37 => 
                  some (!r37)
              else
                (self102 (x21, (4 : Int), p1, p2)).bind fun r39 => 
                some (!r39)) : Option Bool).bind (fun v25_0 => 
          if v25_0 then
            outM (
              outM (
                outM (
                  some false)))
          else
            some (.go ()))) : Option (Out Unit _)).bind (Out.fin fun _ => 
        ((iter (S := Int) (R := Out Unit _) K (fun again i42_0 => 
          if (decide (i42_0 < i14_0)) then
            ((
              ((
                if (x21.op == (55 : Int)) then
                  (idx p0.kids i42_0).bind fun x52 => 
                  some (x52.name.toList == x21.name.toList)
                else
                  some false) : Option Bool).bind (fun v49_0 => 
              if v49_0 then
                outM (
                  outM (
                    outM (
                      outM (
                        some false))))
              else
                some (.go ()))) : Option (Out Unit _)).bind (Out.fin fun _ => 
            again (IntKind.wrap .i64 (i42_0 + (1 : Int))))
          else
            some (.go ())) (0 : Int)) : Option (Out Unit _)).bind (Out.fin fun _ => 
        some (.go ())))) : Option (Out Unit _)).bind (Out.fin fun _ => 
      again (IntKind.wrap .i64 (i14_0 + (1 : Int))))
    else
      some (.go ())) (0 : Int)) : Option (Out Unit _)).bind (Out.fin fun _ => 
  some true))
set_option maxHeartbeats 4000000 in
theorem r08_flow_step (K : Nat) (self102 : (NodeA × Int × Bool × Bool) → Option Bool) (self116 : (NodeA × Bool × Bool) → Option Bool) (hself102 : ∀ (q : NodeA × Int × Bool × Bool) (r : Bool), self102 q = some r → Cn Tryz.prog 102 [aggV q.1.enc, .d (.val (.int .i64 q.2.1)), .d (.val (.bool q.2.2.1)), .d (.val (.bool q.2.2.2))] (.d (.val (.bool r)))) (hself116 : ∀ (q : NodeA × Bool × Bool) (r : Bool), self116 q = some r → Cn Tryz.prog 116 [aggV q.1.enc, .d (.val (.bool q.2.1)), .d (.val (.bool q.2.2))] (.d (.val (.bool r)))) (p0 : NodeA) (p1 : Bool) (p2 : Bool) (r : Bool) (h : r08_flow_body K self102 self116 p0 p1 p2 = some r) : Cn Tryz.prog 116 [aggV p0.enc, .d (.val (.bool p1)), .d (.val (.bool p2))] (.d (.val (.bool r))) := by
  refine Cn.ofA mixed Tryz.func116 rfl Tryz.call116 Tryz.ntmps116 Tryz.results116 (by simp) (by simp only [go_sem, reduceEqDiff, reduceAdd, reduceSub, reduceMul, reduceLeDiff, reduceLT, Nat.reduceBEq, reduceIte]) fun hfit => ?_
  unfold r08_flow_body at h
  refine AW.kp [] [0, 1, 2] ?_
  refine AW.op mixed ?_
  refine AW.kp [0] [1, 2, 3] ?_
  refine AW.op mixed ?_
  refine AW.kp [0] [1, 2, 3, 7] ?_
  refine AW.one ?_
  refine obindE h fun oJ2 h hJ2 => ?_
  refine AW.join (S := Unit) (fun _ => [(1, .d (.val (.bool p1))), (2, .d (.val (.bool p2))), (3, .ptr 0 6 0 0), (7, .d (.val (.int .i64 (p0.kids.length : Int))))]) (fun _ => [some ⟨6, [[.d (.val (.int .i64 p0.op)), .d (.val (.string p0.name)), .d (.val (.bool p0.num.neg)), .d (slD u32V p0.num.num), .d (slD u32V p0.num.den), .d (slD NodeA.enc p0.kids)]]⟩]) (fun x => oJ2 = .go x) ?_ ?_
  · skip
    refine AW.one ?_
    refine obindE h fun oJ4 h hJ4 => ?_
    refine AW.join (S := Bool) (fun v3_0 => [(1, .d (.val (.bool p1))), (2, .d (.val (.bool p2))), (3, .ptr 0 6 0 0), (7, .d (.val (.int .i64 (p0.kids.length : Int)))), (31, .d (.val (.bool v3_0)))]) (fun v3_0 => [some ⟨6, [[.d (.val (.int .i64 p0.op)), .d (.val (.string p0.name)), .d (.val (.bool p0.num.neg)), .d (slD u32V p0.num.num), .d (slD u32V p0.num.den), .d (slD NodeA.enc p0.kids)]]⟩]) (fun x => x = oJ4) ?_ ?_
    · skip
      refine AW.rg mixed ?_
      refine splitK_intro (fun hb5 => ?_) (fun hb5 => ?_)
      · have h := ifT hb5 h
        try simp only [go_sem, reduceEqDiff, reduceAdd, reduceSub, reduceMul, reduceLeDiff, reduceLT, Nat.reduceBEq, reduceIte, hb5]
        refine JoinQ.mk true [0] (Option.some.inj h) (by simp only [go_sem, reduceEqDiff, reduceAdd, reduceSub, reduceMul, reduceLeDiff, reduceLT, Nat.reduceBEq, reduceIte, hb5])
      have h := ifF hb5 h
      try simp only [go_sem, reduceEqDiff, reduceAdd, reduceSub, reduceMul, reduceLeDiff, reduceLT, Nat.reduceBEq, reduceIte, hb5]
      apply obindE h; intro r6 hx7 h
      have hc := nx (r08_primed_ok (h := hx7))
      refine callK_pure hc (by simp only [go_sem, reduceEqDiff, reduceAdd, reduceSub, reduceMul, reduceLeDiff, reduceLT, Nat.reduceBEq, reduceIte]) ?_
      try simp only [go_sem, reduceEqDiff, reduceAdd, reduceSub, reduceMul, reduceLeDiff, reduceLT, Nat.reduceBEq, reduceIte, hb5]
      refine splitK_intro (fun hb8 => ?_) (fun hb8 => ?_)
      · have h := ifT hb8 h
        try simp only [go_sem, reduceEqDiff, reduceAdd, reduceSub, reduceMul, reduceLeDiff, reduceLT, Nat.reduceBEq, reduceIte, hb5, hb8]
        refine JoinQ.mk true [0] (Option.some.inj h) (by simp only [go_sem, reduceEqDiff, reduceAdd, reduceSub, reduceMul, reduceLeDiff, reduceLT, Nat.reduceBEq, reduceIte, hb5, hb8])
      have h := ifF hb8 h
      apply obindE h; intro x9 hx10 h
      try simp only [go_sem, reduceEqDiff, reduceAdd, reduceSub, reduceMul, reduceLeDiff, reduceLT, Nat.reduceBEq, reduceIte, hb5, hb8, (idx_some hx10).1, (idx_some hx10).2]
      apply obindE h; intro r11 hx12 h
      have hc := nx (hself102 _ _ hx12)
      refine callK_pure hc (by simp only [go_sem, reduceEqDiff, reduceAdd, reduceSub, reduceMul, reduceLeDiff, reduceLT, Nat.reduceBEq, reduceIte]) ?_
      try simp only [go_sem, reduceEqDiff, reduceAdd, reduceSub, reduceMul, reduceLeDiff, reduceLT, Nat.reduceBEq, reduceIte, hb5, hb8, (idx_some hx10).1, (idx_some hx10).2]
      refine JoinQ.mk (!r11) [0] (Option.some.inj h) (by simp only [go_sem, reduceEqDiff, reduceAdd, reduceSub, reduceMul, reduceLeDiff, reduceLT, Nat.reduceBEq, reduceIte, hb5, hb8, (idx_some hx10).1, (idx_some hx10).2])
    rintro v3_0 rfl
    have h := hJ4
    try dsimp only [Out.fin] at h
    refine nz ?_
    refine AW.ts v3_0 (fun hb13 => ?_) (fun hb13 => ?_)
    · have h := ifT hb13 h
      refine AW.op mixed ?_
      refine AW.ret ?_
      obtain ⟨_, h, ho⟩ := outM_some h
      rw [ho, Out.fin_out] at hJ2
      have h := h.trans hJ2
      obtain rfl := Option.some.inj h
      refine nz ?_
      exact .same _
    have h := ifF hb13 h
    refine AW.sk ?_
    exact JoinQ.ar () [0] (Option.some.inj h).symm
  rintro ⟨⟩ rfl
  have h := hJ2
  try dsimp only [Out.fin] at h
  refine nz ?_
  refine AW.one ?_
  refine AW.op mixed ?_
  refine AW.kp [0] [1, 2, 3, 7, 8] ?_
  refine obindE h fun oJ17 h hJ17 => ?_
  refine AW.join (S := Unit) (fun _ => []) (fun _ => []) (fun x => oJ17 = .go x) ?_ ?_
  · refine AW.block ?_
    refine AW.iter (S := Int) (fun i14_0 => [(1, .d (.val (.bool p1))), (2, .d (.val (.bool p2))), (3, .ptr 0 6 0 0), (7, .d (.val (.int .i64 (p0.kids.length : Int)))), (8, .d (.val (.int .i64 i14_0)))]) (fun i14_0 => [some ⟨6, [[.d (.val (.int .i64 p0.op)), .d (.val (.string p0.name)), .d (.val (.bool p0.num.neg)), .d (slD u32V p0.num.num), .d (slD u32V p0.num.den), .d (slD NodeA.enc p0.kids)]]⟩]) [0] h (by simp only [go_sem, reduceEqDiff, reduceAdd, reduceSub, reduceMul, reduceLeDiff, reduceLT, Nat.reduceBEq, reduceIte]) ?_
    rintro again i14_0 h
    try dsimp only at h
    refine AW.one ?_
    refine AW.op mixed ?_
    refine AW.kp [0] [1, 2, 3, 7, 8, 35] ?_
    refine AW.ts (decide (i14_0 < (IntKind.wrap .i64 ((p0.kids.length : Int) - (1 : Int))))) (fun hb18 => ?_) (fun hb18 => ?_)
    · have h := ifT hb18 h
      refine AW.sk ?_
      refine AW.kp [0] [1, 2, 3, 7, 8] ?_
      refine AW.one ?_
      refine obindE h fun oJ20 h hJ20 => ?_
      refine AW.join (S := Unit) (fun _ => [(1, .d (.val (.bool p1))), (2, .d (.val (.bool p2))), (3, .ptr 0 6 0 0), (7, .d (.val (.int .i64 (p0.kids.length : Int)))), (8, .d (.val (.int .i64 i14_0)))]) (fun _ => [some ⟨6, [[.d (.val (.int .i64 p0.op)), .d (.val (.string p0.name)), .d (.val (.bool p0.num.neg)), .d (slD u32V p0.num.num), .d (slD u32V p0.num.den), .d (slD NodeA.enc p0.kids)]]⟩]) (fun x => oJ20 = .go x) ?_ ?_
      · skip
        refine AW.block ?_
        refine AW.one ?_
        refine AW.reg mixed (by kernel_rfl) ?_
        apply obindE h; intro x21 hx22 h
        try simp only [go_sem, reduceEqDiff, reduceAdd, reduceSub, reduceMul, reduceLeDiff, reduceLT, Nat.reduceBEq, reduceIte, (idx_some hx22).1, (idx_some hx22).2]
        refine AW.cut [0, 6] [(1, .d (.val (.bool p1))), (2, .d (.val (.bool p2))), (3, .ptr 0 6 0 0), (7, .d (.val (.int .i64 (p0.kids.length : Int)))), (8, .d (.val (.int .i64 i14_0))), (9, .ptr 1 6 0 0)] [some ⟨6, [[.d (.val (.int .i64 p0.op)), .d (.val (.string p0.name)), .d (.val (.bool p0.num.neg)), .d (slD u32V p0.num.num), .d (slD u32V p0.num.den), .d (slD NodeA.enc p0.kids)]]⟩, some ⟨6, [[.d (.val (.int .i64 x21.op)), .d (.val (.string x21.name)), .d (.val (.bool x21.num.neg)), .d (slD u32V x21.num.num), .d (slD u32V x21.num.den), .d (slD NodeA.enc x21.kids)]]⟩] (by simp only [go_sem, reduceEqDiff, reduceAdd, reduceSub, reduceMul, reduceLeDiff, reduceLT, Nat.reduceBEq, reduceIte, (idx_some hx22).1, (idx_some hx22).2]) ?_
        refine AW.one ?_
        refine obindE h fun oJ24 h hJ24 => ?_
        refine AW.join (S := Unit) (fun _ => [(1, .d (.val (.bool p1))), (2, .d (.val (.bool p2))), (3, .ptr 0 6 0 0), (7, .d (.val (.int .i64 (p0.kids.length : Int)))), (8, .d (.val (.int .i64 i14_0))), (9, .ptr 1 6 0 0)]) (fun _ => [some ⟨6, [[.d (.val (.int .i64 p0.op)), .d (.val (.string p0.name)), .d (.val (.bool p0.num.neg)), .d (slD u32V p0.num.num), .d (slD u32V p0.num.den), .d (slD NodeA.enc p0.kids)]]⟩, some ⟨6, [[.d (.val (.int .i64 x21.op)), .d (.val (.string x21.name)), .d (.val (.bool x21.num.neg)), .d (slD u32V x21.num.num), .d (slD u32V x21.num.den), .d (slD NodeA.enc x21.kids)]]⟩]) (fun x => oJ24 = .go x) ?_ ?_
        · skip
          refine AW.one ?_
          refine obindE h fun oJ26 h hJ26 => ?_
          refine AW.join (S := Bool) (fun v25_0 => [(1, .d (.val (.bool p1))), (2, .d (.val (.bool p2))), (3, .ptr 0 6 0 0), (7, .d (.val (.int .i64 (p0.kids.length : Int)))), (8, .d (.val (.int .i64 i14_0))), (9, .ptr 1 6 0 0), (68, .d (.val (.bool v25_0)))]) (fun v25_0 => [some ⟨6, [[.d (.val (.int .i64 p0.op)), .d (.val (.string p0.name)), .d (.val (.bool p0.num.neg)), .d (slD u32V p0.num.num), .d (slD u32V p0.num.den), .d (slD NodeA.enc p0.kids)]]⟩, some ⟨6, [[.d (.val (.int .i64 x21.op)), .d (.val (.string x21.name)), .d (.val (.bool x21.num.neg)), .d (slD u32V x21.num.num), .d (slD u32V x21.num.den), .d (slD NodeA.enc x21.kids)]]⟩]) (fun x => x = oJ26) ?_ ?_
          · skip
            refine AW.rg mixed ?_
            refine splitK_intro (fun hb27 => ?_) (fun hb27 => ?_)
            · have h := ifT hb27 h
              try simp only [go_sem, reduceEqDiff, reduceAdd, reduceSub, reduceMul, reduceLeDiff, reduceLT, Nat.reduceBEq, reduceIte, hb27]
              refine splitK_intro (fun hb28 => ?_) (fun hb28 => ?_)
              · have h := ifT hb28 h
                try simp only [go_sem, reduceEqDiff, reduceAdd, reduceSub, reduceMul, reduceLeDiff, reduceLT, Nat.reduceBEq, reduceIte, hb27, hb28]
                refine JoinQ.mk true [0, 1] (Option.some.inj h) (by simp only [go_sem, reduceEqDiff, reduceAdd, reduceSub, reduceMul, reduceLeDiff, reduceLT, Nat.reduceBEq, reduceIte, hb27, hb28])
              have h := ifF hb28 h
              try simp only [go_sem, reduceEqDiff, reduceAdd, reduceSub, reduceMul, reduceLeDiff, reduceLT, Nat.reduceBEq, reduceIte, hb27, hb28]
              refine splitK_intro (fun hb29 => ?_) (fun hb29 => ?_)
              · have h := ifT hb29 h
                try simp only [go_sem, reduceEqDiff, reduceAdd, reduceSub, reduceMul, reduceLeDiff, reduceLT, Nat.reduceBEq, reduceIte, hb27, hb28, hb29]
                refine splitK_intro (fun hb30 => ?_) (fun hb30 => ?_)
                · have h := ifT hb30 h
                  try simp only [go_sem, reduceEqDiff, reduceAdd, reduceSub, reduceMul, reduceLeDiff, reduceLT, Nat.reduceBEq, reduceIte, hb27, hb28, hb29, hb30]
                  refine JoinQ.mk true [0, 1] (Option.some.inj h) (by simp only [go_sem, reduceEqDiff, reduceAdd, reduceSub, reduceMul, reduceLeDiff, reduceLT, Nat.reduceBEq, reduceIte, hb27, hb28, hb29, hb30])
                have h := ifF hb30 h
                try simp only [go_sem, reduceEqDiff, reduceAdd, reduceSub, reduceMul, reduceLeDiff, reduceLT, Nat.reduceBEq, reduceIte, hb27, hb28, hb29, hb30]
                apply obindE h; intro r31 hx32 h
                have hc := nx (hself102 _ _ hx32)
                refine callK_pure hc (by simp only [go_sem, reduceEqDiff, reduceAdd, reduceSub, reduceMul, reduceLeDiff, reduceLT, Nat.reduceBEq, reduceIte]) ?_
                try simp only [go_sem, reduceEqDiff, reduceAdd, reduceSub, reduceMul, reduceLeDiff, reduceLT, Nat.reduceBEq, reduceIte, hb27, hb28, hb29, hb30]
                refine JoinQ.mk (!r31) [0, 1] (Option.some.inj h) (by simp only [go_sem, reduceEqDiff, reduceAdd, reduceSub, reduceMul, reduceLeDiff, reduceLT, Nat.reduceBEq, reduceIte, hb27, hb28, hb29, hb30])
              have h := ifF hb29 h
              try simp only [go_sem, reduceEqDiff, reduceAdd, reduceSub, reduceMul, reduceLeDiff, reduceLT, Nat.reduceBEq, reduceIte, hb27, hb28, hb29]
              apply obindE h; intro r33 hx34 h
              have hc := nx (hself102 _ _ hx34)
              refine callK_pure hc (by simp only [go_sem, reduceEqDiff, reduceAdd, reduceSub, reduceMul, reduceLeDiff, reduceLT, Nat.reduceBEq, reduceIte]) ?_
              try simp only [go_sem, reduceEqDiff, reduceAdd, reduceSub, reduceMul, reduceLeDiff, reduceLT, Nat.reduceBEq, reduceIte, hb27, hb28, hb29]
              refine JoinQ.mk (!r33) [0, 1] (Option.some.inj h) (by simp only [go_sem, reduceEqDiff, reduceAdd, reduceSub, reduceMul, reduceLeDiff, reduceLT, Nat.reduceBEq, reduceIte, hb27, hb28, hb29])
            have h := ifF hb27 h
            try simp only [go_sem, reduceEqDiff, reduceAdd, reduceSub, reduceMul, reduceLeDiff, reduceLT, Nat.reduceBEq, reduceIte, hb27]
            refine splitK_intro (fun hb35 => ?_) (fun hb35 => ?_)
            · have h := ifT hb35 h
              try simp only [go_sem, reduceEqDiff, reduceAdd, reduceSub, reduceMul, reduceLeDiff, reduceLT, Nat.reduceBEq, reduceIte, hb27, hb35]
              refine splitK_intro (fun hb36 => ?_) (fun hb36 => ?_)
              · have h := ifT hb36 h
                try simp only [go_sem, reduceEqDiff, reduceAdd, reduceSub, reduceMul, reduceLeDiff, reduceLT, Nat.reduceBEq, reduceIte, hb27, hb35, hb36]
                refine JoinQ.mk true [0, 1] (Option.some.inj h) (by simp only [go_sem, reduceEqDiff, reduceAdd, reduceSub, reduceMul, reduceLeDiff, reduceLT, Nat.reduceBEq, reduceIte, hb27, hb35, hb36])
              have h := ifF hb36 h
              try simp only [go_sem, reduceEqDiff, reduceAdd, reduceSub, reduceMul, reduceLeDiff, reduceLT, Nat.reduceBEq, reduceIte, hb27, hb35, hb36]
              apply obindE h; intro r37 hx38 h
              have hc := nx (hself102 _ _ hx38)
              refine callK_pure hc (by simp only [go_sem, reduceEqDiff, reduceAdd, reduceSub, reduceMul, reduceLeDiff, reduceLT, Nat.reduceBEq, reduceIte]) ?_
              try simp only [go_sem, reduceEqDiff, reduceAdd, reduceSub, reduceMul, reduceLeDiff, reduceLT, Nat.reduceBEq, reduceIte, hb27, hb35, hb36]
              refine JoinQ.mk (!r37) [0, 1] (Option.some.inj h) (by simp only [go_sem, reduceEqDiff, reduceAdd, reduceSub, reduceMul, reduceLeDiff, reduceLT, Nat.reduceBEq, reduceIte, hb27, hb35, hb36])
            have h := ifF hb35 h
            try simp only [go_sem, reduceEqDiff, reduceAdd, reduceSub, reduceMul, reduceLeDiff, reduceLT, Nat.reduceBEq, reduceIte, hb27, hb35]
            apply obindE h; intro r39 hx40 h
            have hc := nx (hself102 _ _ hx40)
            refine callK_pure hc (by simp only [go_sem, reduceEqDiff, reduceAdd, reduceSub, reduceMul, reduceLeDiff, reduceLT, Nat.reduceBEq, reduceIte]) ?_
            try simp only [go_sem, reduceEqDiff, reduceAdd, reduceSub, reduceMul, reduceLeDiff, reduceLT, Nat.reduceBEq, reduceIte, hb27, hb35]
            refine JoinQ.mk (!r39) [0, 1] (Option.some.inj h) (by simp only [go_sem, reduceEqDiff, reduceAdd, reduceSub, reduceMul, reduceLeDiff, reduceLT, Nat.reduceBEq, reduceIte, hb27, hb35])
          rintro v25_0 rfl
          have h := hJ26
          try dsimp only [Out.fin] at h
          refine nz ?_
          refine AW.ts v25_0 (fun hb41 => ?_) (fun hb41 => ?_)
          · have h := ifT hb41 h
            refine AW.op mixed ?_
            refine AW.ret ?_
            obtain ⟨_, h, ho⟩ := outM_some h
            rw [ho, Out.fin_out] at hJ24
            have h := h.trans hJ24
            obtain ⟨_, h, ho⟩ := outM_some h
            rw [ho, Out.fin_out] at hJ20
            have h := h.trans hJ20
            obtain ⟨_, h, ho⟩ := outM_some h
            rw [ho, Out.fin_out] at hJ17
            have h := h.trans hJ17
            obtain rfl := Option.some.inj h
            refine nz ?_
            exact .same _
          have h := ifF hb41 h
          refine AW.sk ?_
          exact JoinQ.ar () [0, 1] (Option.some.inj h).symm
        rintro ⟨⟩ rfl
        have h := hJ24
        try dsimp only [Out.fin] at h
        refine nz ?_
        refine AW.op mixed ?_
        refine AW.kp [0, 1] [1, 2, 3, 7, 8, 9, 10] ?_
        refine obindE h fun oJ45 h hJ45 => ?_
        refine AW.join (S := Unit) (fun _ => [(1, .d (.val (.bool p1))), (2, .d (.val (.bool p2))), (3, .ptr 0 6 0 0), (7, .d (.val (.int .i64 (p0.kids.length : Int)))), (8, .d (.val (.int .i64 i14_0)))]) (fun _ => [some ⟨6, [[.d (.val (.int .i64 p0.op)), .d (.val (.string p0.name)), .d (.val (.bool p0.num.neg)), .d (slD u32V p0.num.num), .d (slD u32V p0.num.den), .d (slD NodeA.enc p0.kids)]]⟩]) (fun x => oJ45 = .go x) ?_ ?_
        · refine AW.block ?_
          refine AW.iter (S := Int) (fun i42_0 => [(1, .d (.val (.bool p1))), (2, .d (.val (.bool p2))), (3, .ptr 0 6 0 0), (7, .d (.val (.int .i64 (p0.kids.length : Int)))), (8, .d (.val (.int .i64 i14_0))), (9, .ptr 1 6 0 0), (10, .d (.val (.int .i64 i42_0)))]) (fun i42_0 => [some ⟨6, [[.d (.val (.int .i64 p0.op)), .d (.val (.string p0.name)), .d (.val (.bool p0.num.neg)), .d (slD u32V p0.num.num), .d (slD u32V p0.num.den), .d (slD NodeA.enc p0.kids)]]⟩, some ⟨6, [[.d (.val (.int .i64 x21.op)), .d (.val (.string x21.name)), .d (.val (.bool x21.num.neg)), .d (slD u32V x21.num.num), .d (slD u32V x21.num.den), .d (slD NodeA.enc x21.kids)]]⟩]) [0, 1] h (by simp only [go_sem, reduceEqDiff, reduceAdd, reduceSub, reduceMul, reduceLeDiff, reduceLT, Nat.reduceBEq, reduceIte]) ?_
          rintro again i42_0 h
          try dsimp only at h
          refine AW.one ?_
          refine AW.op mixed ?_
          refine AW.kp [0, 1] [1, 2, 3, 7, 8, 9, 10, 71] ?_
          refine AW.ts (decide (i42_0 < i14_0)) (fun hb46 => ?_) (fun hb46 => ?_)
          · have h := ifT hb46 h
            refine AW.sk ?_
            refine AW.kp [0, 1] [1, 2, 3, 7, 8, 9, 10] ?_
            refine AW.one ?_
            refine obindE h fun oJ48 h hJ48 => ?_
            refine AW.join (S := Unit) (fun _ => [(1, .d (.val (.bool p1))), (2, .d (.val (.bool p2))), (3, .ptr 0 6 0 0), (7, .d (.val (.int .i64 (p0.kids.length : Int)))), (8, .d (.val (.int .i64 i14_0))), (9, .ptr 1 6 0 0), (10, .d (.val (.int .i64 i42_0)))]) (fun _ => [some ⟨6, [[.d (.val (.int .i64 p0.op)), .d (.val (.string p0.name)), .d (.val (.bool p0.num.neg)), .d (slD u32V p0.num.num), .d (slD u32V p0.num.den), .d (slD NodeA.enc p0.kids)]]⟩, some ⟨6, [[.d (.val (.int .i64 x21.op)), .d (.val (.string x21.name)), .d (.val (.bool x21.num.neg)), .d (slD u32V x21.num.num), .d (slD u32V x21.num.den), .d (slD NodeA.enc x21.kids)]]⟩]) (fun x => oJ48 = .go x) ?_ ?_
            · skip
              refine AW.block ?_
              refine AW.one ?_
              refine obindE h fun oJ50 h hJ50 => ?_
              refine AW.join (S := Bool) (fun v49_0 => [(1, .d (.val (.bool p1))), (2, .d (.val (.bool p2))), (3, .ptr 0 6 0 0), (7, .d (.val (.int .i64 (p0.kids.length : Int)))), (8, .d (.val (.int .i64 i14_0))), (9, .ptr 1 6 0 0), (10, .d (.val (.int .i64 i42_0))), (87, .d (.val (.bool v49_0)))]) (fun v49_0 => [some ⟨6, [[.d (.val (.int .i64 p0.op)), .d (.val (.string p0.name)), .d (.val (.bool p0.num.neg)), .d (slD u32V p0.num.num), .d (slD u32V p0.num.den), .d (slD NodeA.enc p0.kids)]]⟩, some ⟨6, [[.d (.val (.int .i64 x21.op)), .d (.val (.string x21.name)), .d (.val (.bool x21.num.neg)), .d (slD u32V x21.num.num), .d (slD u32V x21.num.den), .d (slD NodeA.enc x21.kids)]]⟩]) (fun x => x = oJ50) ?_ ?_
              · skip
                refine AW.rg mixed ?_
                refine splitK_intro (fun hb51 => ?_) (fun hb51 => ?_)
                · have h := ifT hb51 h
                  apply obindE h; intro x52 hx53 h
                  try simp only [go_sem, reduceEqDiff, reduceAdd, reduceSub, reduceMul, reduceLeDiff, reduceLT, Nat.reduceBEq, reduceIte, hb51, (idx_some hx53).1, (idx_some hx53).2]
                  refine JoinQ.mk (x52.name.toList == x21.name.toList) [0, 1] (Option.some.inj h) (by simp only [go_sem, reduceEqDiff, reduceAdd, reduceSub, reduceMul, reduceLeDiff, reduceLT, Nat.reduceBEq, reduceIte, hb51, (idx_some hx53).1, (idx_some hx53).2])
                have h := ifF hb51 h
                try simp only [go_sem, reduceEqDiff, reduceAdd, reduceSub, reduceMul, reduceLeDiff, reduceLT, Nat.reduceBEq, reduceIte, hb51]
                refine JoinQ.mk false [0, 1] (Option.some.inj h) (by simp only [go_sem, reduceEqDiff, reduceAdd, reduceSub, reduceMul, reduceLeDiff, reduceLT, Nat.reduceBEq, reduceIte, hb51])
              rintro v49_0 rfl
              have h := hJ50
              try dsimp only [Out.fin] at h
              refine nz ?_
              refine AW.ts v49_0 (fun hb54 => ?_) (fun hb54 => ?_)
              · have h := ifT hb54 h
                refine AW.op mixed ?_
                refine AW.ret ?_
                obtain ⟨_, h, ho⟩ := outM_some h
                rw [ho, Out.fin_out] at hJ48
                have h := h.trans hJ48
                obtain ⟨_, h, ho⟩ := outM_some h
                rw [ho, Out.fin_out] at hJ45
                have h := h.trans hJ45
                obtain ⟨_, h, ho⟩ := outM_some h
                rw [ho, Out.fin_out] at hJ20
                have h := h.trans hJ20
                obtain ⟨_, h, ho⟩ := outM_some h
                rw [ho, Out.fin_out] at hJ17
                have h := h.trans hJ17
                obtain rfl := Option.some.inj h
                refine nz ?_
                exact .same _
              have h := ifF hb54 h
              refine AW.sk ?_
              exact JoinQ.ar () [0, 1] (Option.some.inj h).symm
            rintro ⟨⟩ rfl
            have h := hJ48
            try dsimp only [Out.fin] at h
            refine nz ?_
            refine AW.rg mixed ?_
            exact NextQ.ar (IntKind.wrap .i64 (i42_0 + (1 : Int))) [0, 1] h
          have h := ifF hb46 h
          refine AW.ex ?_
          exact JoinQ.ar () [0] (Option.some.inj h).symm
        rintro ⟨⟩ rfl
        have h := hJ45
        try dsimp only [Out.fin] at h
        refine nz ?_
        exact JoinQ.ar () [0] (Option.some.inj h).symm
      rintro ⟨⟩ rfl
      have h := hJ20
      try dsimp only [Out.fin] at h
      refine nz ?_
      refine AW.rg mixed ?_
      exact NextQ.ar (IntKind.wrap .i64 (i14_0 + (1 : Int))) [0] h
    have h := ifF hb18 h
    refine AW.ex ?_
    exact JoinQ.ar () [] (Option.some.inj h).symm
  rintro ⟨⟩ rfl
  have h := hJ17
  try dsimp only [Out.fin] at h
  refine nz ?_
  refine AW.kp [] [] ?_
  refine AW.op mixed ?_
  refine AW.ret ?_
  obtain rfl := Option.some.inj h
  refine nz ?_
  exact .same _
def grp_r08_well (K : Nat) : Nat → ((NodeA × Int × Bool × Bool) → Option Bool) × ((NodeA × Bool × Bool) → Option Bool)
  | 0 => (fun _ => none, fun _ => none)
  | k + 1 => (fun q => r08_well_body K (grp_r08_well K k).1 (grp_r08_well K k).2 q.1 q.2.1 q.2.2.1 q.2.2.2, fun q => r08_flow_body K (grp_r08_well K k).1 (grp_r08_well K k).2 q.1 q.2.1 q.2.2)
def r08_well (K : Nat) (p0 : NodeA) (p1 : Int) (p2 : Bool) (p3 : Bool) : Option Bool := (grp_r08_well K K).1 (p0, p1, p2, p3)
theorem key_r08_well {K : Nat} (k : Nat) : (∀ (q : NodeA × Int × Bool × Bool) (r : Bool), (grp_r08_well K k).1 q = some r → Cn Tryz.prog 102 [aggV q.1.enc, .d (.val (.int .i64 q.2.1)), .d (.val (.bool q.2.2.1)), .d (.val (.bool q.2.2.2))] (.d (.val (.bool r)))) ∧ (∀ (q : NodeA × Bool × Bool) (r : Bool), (grp_r08_well K k).2 q = some r → Cn Tryz.prog 116 [aggV q.1.enc, .d (.val (.bool q.2.1)), .d (.val (.bool q.2.2))] (.d (.val (.bool r)))) := by
  induction k with
  | zero => exact ⟨(fun q r h => nomatch (show (none : Option _) = some r from h)), (fun q r h => nomatch (show (none : Option _) = some r from h))⟩
  | succ k ih => exact ⟨fun q r h => r08_well_step K _ _ ih.1 ih.2 q.1 q.2.1 q.2.2.1 q.2.2.2 r h, fun q r h => r08_flow_step K _ _ ih.1 ih.2 q.1 q.2.1 q.2.2 r h⟩
theorem r08_well_ok {K : Nat} {p0 : NodeA} {p1 : Int} {p2 : Bool} {p3 : Bool} {r : Bool} (h : r08_well K p0 p1 p2 p3 = some r) : Cn Tryz.prog 102 [aggV p0.enc, .d (.val (.int .i64 p1)), .d (.val (.bool p2)), .d (.val (.bool p3))] (.d (.val (.bool r))) := (key_r08_well K).1 (p0, p1, p2, p3) r h
/-! ### isochrone/isochroneref08.Check -/
def r08_Check (K : Nat) (p0 : NodeA) (p1 : Int) : Option Int := ((
    if (decide (p1 < (1 : Int))) then
      some true
    else
      some (decide ((3 : Int) < p1))) : Option Bool).bind (fun v1_0 => 
  if v1_0 then
    some (1 : Int)
  else
    ((
      (r08_Size K p0).bind fun r7 => 
      if (decide ((4000 : Int) < r7)) then
        some true
      else
        (r08_Levels K p0).bind fun r10 => 
        some (decide ((60 : Int) < r10))) : Option Bool).bind (fun v5_0 => 
    if v5_0 then
      some (2 : Int)
    else
      (r08_Sort K p0.op).bind fun r13 => 
      if (r13 != p1) then
        some (80 : Int)
      else
        (r08_well K p0 p1 false false).bind fun r16 => 
        if (!r16) then
          some (3 : Int)
        else
          some (0 : Int)))
set_option maxHeartbeats 4000000 in
theorem r08_Check_ok {K : Nat} {p0 : NodeA} {p1 : Int} {r : Int} (h : r08_Check K p0 p1 = some r) : Cn Tryz.prog 74 [aggV p0.enc, .d (.val (.int .i64 p1))] (.d (.val (.int .i64 r))) := by
  refine Cn.ofA mixed Tryz.func74 rfl Tryz.call74 Tryz.ntmps74 Tryz.results74 (by simp) (by simp only [go_sem, reduceEqDiff, reduceAdd, reduceSub, reduceMul, reduceLeDiff, reduceLT, Nat.reduceBEq, reduceIte]) fun hfit => ?_
  unfold r08_Check at h
  refine AW.kp [] [0, 1] ?_
  refine AW.op mixed ?_
  refine AW.kp [0] [1, 2] ?_
  refine AW.one ?_
  refine AW.block ?_
  refine AW.one ?_
  refine obindE h fun oJ2 h hJ2 => ?_
  refine AW.join (S := Bool) (fun v1_0 => [(1, .d (.val (.int .i64 p1))), (2, .ptr 0 6 0 0), (5, .d (.val (.bool v1_0)))]) (fun v1_0 => [some ⟨6, [[.d (.val (.int .i64 p0.op)), .d (.val (.string p0.name)), .d (.val (.bool p0.num.neg)), .d (slD u32V p0.num.num), .d (slD u32V p0.num.den), .d (slD NodeA.enc p0.kids)]]⟩]) (fun x => x = oJ2) ?_ ?_
  · skip
    refine AW.rg mixed ?_
    refine splitK_intro (fun hb3 => ?_) (fun hb3 => ?_)
    · have h := ifT hb3 h
      try simp only [go_sem, reduceEqDiff, reduceAdd, reduceSub, reduceMul, reduceLeDiff, reduceLT, Nat.reduceBEq, reduceIte, hb3]
      refine JoinQ.mk true [0] (Option.some.inj h) (by simp only [go_sem, reduceEqDiff, reduceAdd, reduceSub, reduceMul, reduceLeDiff, reduceLT, Nat.reduceBEq, reduceIte, hb3])
    have h := ifF hb3 h
    try simp only [go_sem, reduceEqDiff, reduceAdd, reduceSub, reduceMul, reduceLeDiff, reduceLT, Nat.reduceBEq, reduceIte, hb3]
    refine JoinQ.mk (decide ((3 : Int) < p1)) [0] (Option.some.inj h) (by simp only [go_sem, reduceEqDiff, reduceAdd, reduceSub, reduceMul, reduceLeDiff, reduceLT, Nat.reduceBEq, reduceIte, hb3])
  rintro v1_0 rfl
  have h := hJ2
  try dsimp only [Out.fin] at h
  refine nz ?_
  refine AW.ts v1_0 (fun hb4 => ?_) (fun hb4 => ?_)
  · have h := ifT hb4 h
    refine AW.op mixed ?_
    refine AW.ret ?_
    obtain rfl := Option.some.inj h
    refine nz ?_
    exact .same _
  have h := ifF hb4 h
  refine AW.one ?_
  refine obindE h fun oJ6 h hJ6 => ?_
  refine AW.join (S := Bool) (fun v5_0 => [(1, .d (.val (.int .i64 p1))), (2, .ptr 0 6 0 0), (12, .d (.val (.bool v5_0)))]) (fun v5_0 => [some ⟨6, [[.d (.val (.int .i64 p0.op)), .d (.val (.string p0.name)), .d (.val (.bool p0.num.neg)), .d (slD u32V p0.num.num), .d (slD u32V p0.num.den), .d (slD NodeA.enc p0.kids)]]⟩]) (fun x => x = oJ6) ?_ ?_
  · skip
    refine AW.rg mixed ?_
    apply obindE h; intro r7 hx8 h
    have hc := nx (r08_Size_ok (h := hx8))
    refine callP hc ?_
    refine splitK_intro (fun hb9 => ?_) (fun hb9 => ?_)
    · have h := ifT hb9 h
      try simp only [go_sem, reduceEqDiff, reduceAdd, reduceSub, reduceMul, reduceLeDiff, reduceLT, Nat.reduceBEq, reduceIte, hb9]
      refine JoinQ.mk true [0] (Option.some.inj h) (by simp only [go_sem, reduceEqDiff, reduceAdd, reduceSub, reduceMul, reduceLeDiff, reduceLT, Nat.reduceBEq, reduceIte, hb9])
    have h := ifF hb9 h
    try simp only [go_sem, reduceEqDiff, reduceAdd, reduceSub, reduceMul, reduceLeDiff, reduceLT, Nat.reduceBEq, reduceIte, hb9]
    apply obindE h; intro r10 hx11 h
    have hc := nx (r08_Levels_ok (h := hx11))
    refine callK_pure hc (by simp only [go_sem, reduceEqDiff, reduceAdd, reduceSub, reduceMul, reduceLeDiff, reduceLT, Nat.reduceBEq, reduceIte]) ?_
    try simp only [go_sem, reduceEqDiff, reduceAdd, reduceSub, reduceMul, reduceLeDiff, reduceLT, Nat.reduceBEq, reduceIte, hb9]
    refine JoinQ.mk (decide ((60 : Int) < r10)) [0] (Option.some.inj h) (by simp only [go_sem, reduceEqDiff, reduceAdd, reduceSub, reduceMul, reduceLeDiff, reduceLT, Nat.reduceBEq, reduceIte, hb9])
  rintro v5_0 rfl
  have h := hJ6
  try dsimp only [Out.fin] at h
  refine nz ?_
  refine AW.ts v5_0 (fun hb12 => ?_) (fun hb12 => ?_)
  · have h := ifT hb12 h
    refine AW.op mixed ?_
    refine AW.ret ?_
    obtain rfl := Option.some.inj h
    refine nz ?_
    exact .same _
  have h := ifF hb12 h
  refine AW.op mixed ?_
  apply obindE h; intro r13 hx14 h
  have hc := nx (r08_Sort_ok (h := hx14))
  refine callP hc ?_
  refine AW.kp [0] [1, 2, 21] ?_
  refine AW.ts (r13 != p1) (fun hb15 => ?_) (fun hb15 => ?_)
  · have h := ifT hb15 h
    refine AW.op mixed ?_
    refine AW.ret ?_
    obtain rfl := Option.some.inj h
    refine nz ?_
    exact .same _
  have h := ifF hb15 h
  refine AW.op mixed ?_
  apply obindE h; intro r16 hx17 h
  have hc := nx (r08_well_ok (h := hx17))
  refine callP hc ?_
  refine AW.kp [] [27] ?_
  refine AW.ts (!r16) (fun hb18 => ?_) (fun hb18 => ?_)
  · have h := ifT hb18 h
    refine AW.op mixed ?_
    refine AW.ret ?_
    obtain rfl := Option.some.inj h
    refine nz ?_
    exact .same _
  have h := ifF hb18 h
  refine AW.sk ?_
  refine AW.kp [] [] ?_
  refine AW.op mixed ?_
  refine AW.ret ?_
  obtain rfl := Option.some.inj h
  refine nz ?_
  exact .same _
/-! ### isochrone/isochroneref18.check -/
def r18_check (K : Nat) (p0 : NodeA) : Option Int := (r08_Sort K p0.op).bind fun r1 => 
  ((
    ((
      if (r1 == (0 : Int)) then
        some true
      else
        some (r1 == (4 : Int))) : Option Bool).bind (fun v5_0 => 
    if v5_0 then
      outM (
        some (80 : Int))
    else
      some (.go ()))) : Option (Out Unit _)).bind (Out.fin fun _ => 
  (r08_Check K p0 r1).bind fun r9 => 
  some r9)
set_option maxHeartbeats 4000000 in
theorem r18_check_ok {K : Nat} {p0 : NodeA} {r : Int} (h : r18_check K p0 = some r) : Cn Tryz.prog 33 [aggV p0.enc] (.d (.val (.int .i64 r))) := by
  refine Cn.ofA mixed Tryz.func33 rfl Tryz.call33 Tryz.ntmps33 Tryz.results33 (by simp) (by simp only [go_sem, reduceEqDiff, reduceAdd, reduceSub, reduceMul, reduceLeDiff, reduceLT, Nat.reduceBEq, reduceIte]) fun hfit => ?_
  unfold r18_check at h
  refine AW.kp [] [0] ?_
  refine AW.op mixed ?_
  refine AW.kp [0] [1] ?_
  refine AW.op mixed ?_
  apply obindE h; intro r1 hx2 h
  have hc := nx (r08_Sort_ok (h := hx2))
  refine callP hc ?_
  refine AW.kp [0] [1, 3] ?_
  refine AW.one ?_
  refine obindE h fun oJ4 h hJ4 => ?_
  refine AW.join (S := Unit) (fun _ => [(1, .ptr 0 6 0 0), (3, .d (.val (.int .i64 r1)))]) (fun _ => [some ⟨6, [[.d (.val (.int .i64 p0.op)), .d (.val (.string p0.name)), .d (.val (.bool p0.num.neg)), .d (slD u32V p0.num.num), .d (slD u32V p0.num.den), .d (slD NodeA.enc p0.kids)]]⟩]) (fun x => oJ4 = .go x) ?_ ?_
  · skip
    refine AW.one ?_
    refine obindE h fun oJ6 h hJ6 => ?_
    refine AW.join (S := Bool) (fun v5_0 => [(1, .ptr 0 6 0 0), (3, .d (.val (.int .i64 r1))), (12, .d (.val (.bool v5_0)))]) (fun v5_0 => [some ⟨6, [[.d (.val (.int .i64 p0.op)), .d (.val (.string p0.name)), .d (.val (.bool p0.num.neg)), .d (slD u32V p0.num.num), .d (slD u32V p0.num.den), .d (slD NodeA.enc p0.kids)]]⟩]) (fun x => x = oJ6) ?_ ?_
    · skip
      refine AW.rg mixed ?_
      refine splitK_intro (fun hb7 => ?_) (fun hb7 => ?_)
      · have h := ifT hb7 h
        try simp only [go_sem, reduceEqDiff, reduceAdd, reduceSub, reduceMul, reduceLeDiff, reduceLT, Nat.reduceBEq, reduceIte, hb7]
        refine JoinQ.mk true [0] (Option.some.inj h) (by simp only [go_sem, reduceEqDiff, reduceAdd, reduceSub, reduceMul, reduceLeDiff, reduceLT, Nat.reduceBEq, reduceIte, hb7])
      have h := ifF hb7 h
      try simp only [go_sem, reduceEqDiff, reduceAdd, reduceSub, reduceMul, reduceLeDiff, reduceLT, Nat.reduceBEq, reduceIte, hb7]
      refine JoinQ.mk (r1 == (4 : Int)) [0] (Option.some.inj h) (by simp only [go_sem, reduceEqDiff, reduceAdd, reduceSub, reduceMul, reduceLeDiff, reduceLT, Nat.reduceBEq, reduceIte, hb7])
    rintro v5_0 rfl
    have h := hJ6
    try dsimp only [Out.fin] at h
    refine nz ?_
    refine AW.ts v5_0 (fun hb8 => ?_) (fun hb8 => ?_)
    · have h := ifT hb8 h
      refine AW.op mixed ?_
      refine AW.ret ?_
      obtain ⟨_, h, ho⟩ := outM_some h
      rw [ho, Out.fin_out] at hJ4
      have h := h.trans hJ4
      obtain rfl := Option.some.inj h
      refine nz ?_
      exact .same _
    have h := ifF hb8 h
    refine AW.sk ?_
    exact JoinQ.ar () [0] (Option.some.inj h).symm
  rintro ⟨⟩ rfl
  have h := hJ4
  try dsimp only [Out.fin] at h
  refine nz ?_
  refine AW.op mixed ?_
  apply obindE h; intro r9 hx10 h
  have hc := nx (r08_Check_ok (h := hx10))
  refine callP hc ?_
  refine AW.ret ?_
  obtain rfl := Option.some.inj h
  refine nz ?_
  exact .same _
/-! ### isochrone/isochroneref18.named -/
def r18_named_body (K : Nat) (self50 : (NodeA × ByteArray) → Option Bool) (p0 : NodeA) (p1 : ByteArray) : Option Bool := if (p0.name.toList == p1.toList) then
    some true
  else
    ((iter (S := Int) (R := Out Unit _) K (fun again i2_0 => 
      if (decide (i2_0 < (p0.kids.length : Int))) then
        (idx p0.kids i2_0).bind fun x7 => 
        (self50 (x7, p1)).bind fun r9 => 
        if r9 then
          outM (
            some true)
        else
          again (IntKind.wrap .i64 (i2_0 + (1 : Int)))
      else
        some (.go ())) (0 : Int)) : Option (Out Unit _)).bind (Out.fin fun _ => 
    some false)
set_option maxHeartbeats 4000000 in
theorem r18_named_step (K : Nat) (self50 : (NodeA × ByteArray) → Option Bool) (hself50 : ∀ (q : NodeA × ByteArray) (r : Bool), self50 q = some r → Cn Tryz.prog 50 [aggV q.1.enc, .d (.val (.string q.2))] (.d (.val (.bool r)))) (p0 : NodeA) (p1 : ByteArray) (r : Bool) (h : r18_named_body K self50 p0 p1 = some r) : Cn Tryz.prog 50 [aggV p0.enc, .d (.val (.string p1))] (.d (.val (.bool r))) := by
  refine Cn.ofA mixed Tryz.func50 rfl Tryz.call50 Tryz.ntmps50 Tryz.results50 (by simp) (by simp only [go_sem, reduceEqDiff, reduceAdd, reduceSub, reduceMul, reduceLeDiff, reduceLT, Nat.reduceBEq, reduceIte]) fun hfit => ?_
  unfold r18_named_body at h
  refine AW.kp [] [0, 1] ?_
  refine AW.op mixed ?_
  refine AW.kp [0] [1, 2] ?_
  refine AW.one ?_
  refine AW.op mixed ?_
  refine AW.kp [0] [1, 2, 9] ?_
  refine AW.ts (p0.name.toList == p1.toList) (fun hb1 => ?_) (fun hb1 => ?_)
  · have h := ifT hb1 h
    refine AW.op mixed ?_
    refine AW.ret ?_
    obtain rfl := Option.some.inj h
    refine nz ?_
    exact .same _
  have h := ifF hb1 h
  refine AW.sk ?_
  refine AW.kp [0] [1, 2] ?_
  refine AW.one ?_
  refine AW.op mixed ?_
  refine AW.kp [0] [1, 2, 5] ?_
  refine obindE h fun oJ5 h hJ5 => ?_
  refine AW.join (S := Unit) (fun _ => []) (fun _ => []) (fun x => oJ5 = .go x) ?_ ?_
  · refine AW.block ?_
    refine AW.iter (S := Int) (fun i2_0 => [(1, .d (.val (.string p1))), (2, .ptr 0 6 0 0), (5, .d (.val (.int .i64 i2_0)))]) (fun i2_0 => [some ⟨6, [[.d (.val (.int .i64 p0.op)), .d (.val (.string p0.name)), .d (.val (.bool p0.num.neg)), .d (slD u32V p0.num.num), .d (slD u32V p0.num.den), .d (slD NodeA.enc p0.kids)]]⟩]) [0] h (by simp only [go_sem, reduceEqDiff, reduceAdd, reduceSub, reduceMul, reduceLeDiff, reduceLT, Nat.reduceBEq, reduceIte]) ?_
    rintro again i2_0 h
    try dsimp only at h
    refine AW.one ?_
    refine AW.op mixed ?_
    refine AW.kp [0] [1, 2, 5, 14] ?_
    refine AW.ts (decide (i2_0 < (p0.kids.length : Int))) (fun hb6 => ?_) (fun hb6 => ?_)
    · have h := ifT hb6 h
      refine AW.sk ?_
      refine AW.kp [0] [1, 2, 5] ?_
      refine AW.one ?_
      refine AW.block ?_
      refine AW.one ?_
      refine AW.reg mixed (by kernel_rfl) ?_
      apply obindE h; intro x7 hx8 h
      try simp only [go_sem, reduceEqDiff, reduceAdd, reduceSub, reduceMul, reduceLeDiff, reduceLT, Nat.reduceBEq, reduceIte, (idx_some hx8).1, (idx_some hx8).2]
      apply obindE h; intro r9 hx10 h
      have hc := nx (hself50 _ _ hx10)
      refine callK_pure hc (by simp only [go_sem, reduceEqDiff, reduceAdd, reduceSub, reduceMul, reduceLeDiff, reduceLT, Nat.reduceBEq, reduceIte]) ?_
      try simp only [go_sem, reduceEqDiff, reduceAdd, reduceSub, reduceMul, reduceLeDiff, reduceLT, Nat.reduceBEq, reduceIte, (idx_some hx8).1, (idx_some hx8).2]
      refine AW.cut [0] [(1, .d (.val (.string p1))), (2, .ptr 0 6 0 0), (5, .d (.val (.int .i64 i2_0))), (23, .d (.val (.bool r9)))] [some ⟨6, [[.d (.val (.int .i64 p0.op)), .d (.val (.string p0.name)), .d (.val (.bool p0.num.neg)), .d (slD u32V p0.num.num), .d (slD u32V p0.num.den), .d (slD NodeA.enc p0.kids)]]⟩] (by simp only [go_sem, reduceEqDiff, reduceAdd, reduceSub, reduceMul, reduceLeDiff, reduceLT, Nat.reduceBEq, reduceIte, (idx_some hx8).1, (idx_some hx8).2]) ?_
      refine AW.ts r9 (fun hb11 => ?_) (fun hb11 => ?_)
      · have h := ifT hb11 h
        refine AW.op mixed ?_
        refine AW.ret ?_
        obtain ⟨_, h, ho⟩ := outM_some h
        rw [ho, Out.fin_out] at hJ5
        have h := h.trans hJ5
        obtain rfl := Option.some.inj h
        refine nz ?_
        exact .same _
      have h := ifF hb11 h
      refine AW.sk ?_
      refine AW.kp [0] [1, 2, 5] ?_
      refine AW.rg mixed ?_
      exact NextQ.ar (IntKind.wrap .i64 (i2_0 + (1 : Int))) [0] h
    have h := ifF hb6 h
    refine AW.ex ?_
    exact JoinQ.ar () [] (Option.some.inj h).symm
  rintro ⟨⟩ rfl
  have h := hJ5
  try dsimp only [Out.fin] at h
  refine nz ?_
  refine AW.kp [] [] ?_
  refine AW.op mixed ?_
  refine AW.ret ?_
  obtain rfl := Option.some.inj h
  refine nz ?_
  exact .same _
def r18_named (K : Nat) (p0 : NodeA) (p1 : ByteArray) : Option Bool := iter K (fun self q => r18_named_body K self q.1 q.2) (p0, p1)
theorem key_r18_named {K : Nat} (k : Nat) : (∀ (q : NodeA × ByteArray) (r : Bool), iter k (fun self q => r18_named_body K self q.1 q.2) q = some r → Cn Tryz.prog 50 [aggV q.1.enc, .d (.val (.string q.2))] (.d (.val (.bool r)))) := by
  induction k with
  | zero => exact fun q r h => by cases h
  | succ k ih => exact fun q r h => r18_named_step K _ ih q.1 q.2 r h
theorem r18_named_ok {K : Nat} {p0 : NodeA} {p1 : ByteArray} {r : Bool} (h : r18_named K p0 p1 = some r) : Cn Tryz.prog 50 [aggV p0.enc, .d (.val (.string p1))] (.d (.val (.bool r))) := (key_r18_named K) (p0, p1) r h
/-! ### isochrone/isochroneref18.Fresh -/
def r18_Fresh (K : Nat) (p0 : NodeA) (p1 : ByteArray) : Option (ByteArray × Int) := (r18_check K p0).bind fun r1 => 
  if (r1 != (0 : Int)) then
    some ((⟨#[]⟩ : ByteArray), r1)
  else
    (r08_Name K p1).bind fun r4 => 
    if (!r4) then
      some ((⟨#[]⟩ : ByteArray), (3 : Int))
    else
      ((iter (S := ByteArray × Int) (R := Out Unit _) K (fun again (i7_0, i7_1) => 
        if (decide ((12 : Int) < (i7_0.size : Int))) then
          outM (
            some ((⟨#[]⟩ : ByteArray), (2 : Int)))
        else
          (r18_named K p0 i7_0).bind fun r12 => 
          if (!r12) then
            outM (
              some (i7_0, (0 : Int)))
          else
            (r01_Int K i7_1).bind fun r15 => 
            (r01_Text K r15).bind fun r17 => 
            (catO p1 r17).bind fun s19 => 
            again (s19, IntKind.wrap .i64 (i7_1 + (1 : Int)))) (p1, (0 : Int))) : Option (Out Unit _)).bind (Out.fin fun _ => 
      none)
set_option maxHeartbeats 4000000 in
theorem r18_Fresh_ok {K : Nat} {p0 : NodeA} {p1 : ByteArray} {r : ByteArray × Int} (h : r18_Fresh K p0 p1 = some r) : Cn Tryz.prog 21 [aggV p0.enc, .d (.val (.string p1))] (.tup [.d (.val (.string r.1)), .d (.val (.int .i64 r.2))]) := by
  refine Cn.ofA mixed Tryz.func21 rfl Tryz.call21 Tryz.ntmps21 Tryz.results21 (by simp) (by simp only [go_sem, reduceEqDiff, reduceAdd, reduceSub, reduceMul, reduceLeDiff, reduceLT, Nat.reduceBEq, reduceIte]) fun hfit => ?_
  unfold r18_Fresh at h
  refine AW.kp [] [0, 1] ?_
  refine AW.op mixed ?_
  refine AW.kp [0] [1, 2] ?_
  refine AW.one ?_
  refine AW.op mixed ?_
  apply obindE h; intro r1 hx2 h
  have hc := nx (r18_check_ok (h := hx2))
  refine callP hc ?_
  refine AW.kp [0] [1, 2, 6] ?_
  refine AW.op mixed ?_
  refine AW.kp [0] [1, 2, 6, 12] ?_
  refine AW.ts (r1 != (0 : Int)) (fun hb3 => ?_) (fun hb3 => ?_)
  · have h := ifT hb3 h
    refine AW.op mixed ?_
    refine AW.ret ?_
    obtain rfl := Option.some.inj h
    refine nz ?_
    exact .same _
  have h := ifF hb3 h
  refine AW.sk ?_
  refine AW.kp [0] [1, 2] ?_
  refine AW.one ?_
  refine AW.op mixed ?_
  apply obindE h; intro r4 hx5 h
  have hc := nx (r08_Name_ok (h := hx5))
  refine callP hc ?_
  refine AW.kp [0] [1, 2, 16] ?_
  refine AW.ts (!r4) (fun hb6 => ?_) (fun hb6 => ?_)
  · have h := ifT hb6 h
    refine AW.op mixed ?_
    refine AW.ret ?_
    obtain rfl := Option.some.inj h
    refine nz ?_
    exact .same _
  have h := ifF hb6 h
  refine AW.sk ?_
  refine AW.kp [0] [1, 2] ?_
  refine AW.op mixed ?_
  refine AW.kp [0] [1, 2, 7] ?_
  refine AW.op mixed ?_
  refine AW.kp [0] [1, 2, 7, 8] ?_
  refine obindE h fun oJ10 h hJ10 => ?_
  refine AW.join (S := Unit) (fun _ => []) (fun _ => []) (fun x => oJ10 = .go x) ?_ ?_
  · refine AW.block ?_
    refine AW.iter (S := ByteArray × Int) (fun (i7_0, i7_1) => [(1, .d (.val (.string p1))), (2, .ptr 0 6 0 0), (7, .d (.val (.string i7_0))), (8, .d (.val (.int .i64 i7_1)))]) (fun (i7_0, i7_1) => [some ⟨6, [[.d (.val (.int .i64 p0.op)), .d (.val (.string p0.name)), .d (.val (.bool p0.num.neg)), .d (slD u32V p0.num.num), .d (slD u32V p0.num.den), .d (slD NodeA.enc p0.kids)]]⟩]) [0] h (by simp only [go_sem, reduceEqDiff, reduceAdd, reduceSub, reduceMul, reduceLeDiff, reduceLT, Nat.reduceBEq, reduceIte]) ?_
    rintro again ⟨i7_0, i7_1⟩ h
    try dsimp only at h
    refine AW.one ?_
    refine AW.block ?_
    refine AW.one ?_
    refine AW.op mixed ?_
    refine AW.kp [0] [1, 2, 7, 8, 22] ?_
    refine AW.ts (decide ((12 : Int) < (i7_0.size : Int))) (fun hb11 => ?_) (fun hb11 => ?_)
    · have h := ifT hb11 h
      refine AW.op mixed ?_
      refine AW.ret ?_
      obtain ⟨_, h, ho⟩ := outM_some h
      rw [ho, Out.fin_out] at hJ10
      have h := h.trans hJ10
      obtain rfl := Option.some.inj h
      refine nz ?_
      exact .same _
    have h := ifF hb11 h
    refine AW.sk ?_
    refine AW.kp [0] [1, 2, 7, 8] ?_
    refine AW.one ?_
    refine AW.op mixed ?_
    apply obindE h; intro r12 hx13 h
    have hc := nx (r18_named_ok (h := hx13))
    refine callP hc ?_
    refine AW.kp [0] [1, 2, 7, 8, 26] ?_
    refine AW.ts (!r12) (fun hb14 => ?_) (fun hb14 => ?_)
    · have h := ifT hb14 h
      refine AW.op mixed ?_
      refine AW.ret ?_
      obtain ⟨_, h, ho⟩ := outM_some h
      rw [ho, Out.fin_out] at hJ10
      have h := h.trans hJ10
      obtain rfl := Option.some.inj h
      refine nz ?_
      exact .same _
    have h := ifF hb14 h
    refine AW.sk ?_
    refine AW.kp [0] [1, 2, 8] ?_
    refine AW.rg mixed ?_
    apply obindE h; intro r15 hx16 h
    have hc := nx (r01_Int_ok (h := hx16))
    refine callP hc ?_
    apply obindE h; intro r17 hx18 h
    have hc := nx (r01_Text_ok (h := hx18))
    refine callP hc ?_
    apply obindE h; intro s19 hx20 h
    try simp only [go_sem, reduceEqDiff, reduceAdd, reduceSub, reduceMul, reduceLeDiff, reduceLT, Nat.reduceBEq, reduceIte, bop_cat (P := Tryz.prog) hx20]
    refine AW.cut [0] [(1, .d (.val (.string p1))), (2, .ptr 0 6 0 0), (7, .d (.val (.string s19))), (8, .d (.val (.int .i64 i7_1)))] [some ⟨6, [[.d (.val (.int .i64 p0.op)), .d (.val (.string p0.name)), .d (.val (.bool p0.num.neg)), .d (slD u32V p0.num.num), .d (slD u32V p0.num.den), .d (slD NodeA.enc p0.kids)]]⟩] (by simp only [go_sem, reduceEqDiff, reduceAdd, reduceSub, reduceMul, reduceLeDiff, reduceLT, Nat.reduceBEq, reduceIte, bop_cat (P := Tryz.prog) hx20]) ?_
    refine AW.rg mixed ?_
    exact NextQ.ar (s19, IntKind.wrap .i64 (i7_1 + (1 : Int))) [0] h
  rintro ⟨⟩ rfl
  have h := hJ10
  try dsimp only [Out.fin] at h
  refine nz ?_
  cases h
/-! ### isochrone/rename.Fresh -/
def rename_Fresh (K : Nat) (p0 : NodeA) (p1 : ByteArray) : Option (ByteArray × Int) := (rename_check K p0).bind fun r1 => 
  if (r1 != (0 : Int)) then
    some ((⟨#[]⟩ : ByteArray), r1)
  else
    (tree_Name K p1).bind fun r4 => 
    if (!r4) then
      some ((⟨#[]⟩ : ByteArray), (3 : Int))
    else
      ((iter (S := ByteArray × Int) (R := Out Unit _) K (fun again (i7_0, i7_1) => 
        if (decide ((12 : Int) < (i7_0.size : Int))) then
          outM (
            some ((⟨#[]⟩ : ByteArray), (2 : Int)))
        else
          (rename_occurs K p0 i7_0).bind fun r12 => 
          if (!r12) then
            outM (
              some (i7_0, (0 : Int)))
          else
            (strconv_Itoa K i7_1).bind fun r15 => 
            (catO p1 r15).bind fun s17 => 
            again (s17, IntKind.wrap .i64 (i7_1 + (1 : Int)))) (p1, (0 : Int))) : Option (Out Unit _)).bind (Out.fin fun _ => 
      none)
set_option maxHeartbeats 4000000 in
theorem rename_Fresh_ok {K : Nat} {p0 : NodeA} {p1 : ByteArray} {r : ByteArray × Int} (h : rename_Fresh K p0 p1 = some r) : Cn Tryz.prog 20 [aggV p0.enc, .d (.val (.string p1))] (.tup [.d (.val (.string r.1)), .d (.val (.int .i64 r.2))]) := by
  refine Cn.ofA mixed Tryz.func20 rfl Tryz.call20 Tryz.ntmps20 Tryz.results20 (by simp) (by simp only [go_sem, reduceEqDiff, reduceAdd, reduceSub, reduceMul, reduceLeDiff, reduceLT, Nat.reduceBEq, reduceIte]) fun hfit => ?_
  unfold rename_Fresh at h
  refine AW.kp [] [0, 1] ?_
  refine AW.op mixed ?_
  refine AW.kp [0] [1, 2] ?_
  refine AW.one ?_
  refine AW.op mixed ?_
  apply obindE h; intro r1 hx2 h
  have hc := nx (rename_check_ok (h := hx2))
  refine callP hc ?_
  refine AW.kp [0] [1, 2, 6] ?_
  refine AW.op mixed ?_
  refine AW.kp [0] [1, 2, 6, 12] ?_
  refine AW.ts (r1 != (0 : Int)) (fun hb3 => ?_) (fun hb3 => ?_)
  · have h := ifT hb3 h
    refine AW.op mixed ?_
    refine AW.ret ?_
    obtain rfl := Option.some.inj h
    refine nz ?_
    exact .same _
  have h := ifF hb3 h
  refine AW.sk ?_
  refine AW.kp [0] [1, 2] ?_
  refine AW.one ?_
  refine AW.op mixed ?_
  apply obindE h; intro r4 hx5 h
  have hc := nx (tree_Name_ok (h := hx5))
  refine callP hc ?_
  refine AW.kp [0] [1, 2, 16] ?_
  refine AW.ts (!r4) (fun hb6 => ?_) (fun hb6 => ?_)
  · have h := ifT hb6 h
    refine AW.op mixed ?_
    refine AW.ret ?_
    obtain rfl := Option.some.inj h
    refine nz ?_
    exact .same _
  have h := ifF hb6 h
  refine AW.sk ?_
  refine AW.kp [0] [1, 2] ?_
  refine AW.op mixed ?_
  refine AW.kp [0] [1, 2, 7] ?_
  refine AW.op mixed ?_
  refine AW.kp [0] [1, 2, 7, 8] ?_
  refine obindE h fun oJ10 h hJ10 => ?_
  refine AW.join (S := Unit) (fun _ => []) (fun _ => []) (fun x => oJ10 = .go x) ?_ ?_
  · refine AW.block ?_
    refine AW.iter (S := ByteArray × Int) (fun (i7_0, i7_1) => [(1, .d (.val (.string p1))), (2, .ptr 0 6 0 0), (7, .d (.val (.string i7_0))), (8, .d (.val (.int .i64 i7_1)))]) (fun (i7_0, i7_1) => [some ⟨6, [[.d (.val (.int .i64 p0.op)), .d (.val (.string p0.name)), .d (.val (.bool p0.num.neg)), .d (slD u32V p0.num.num), .d (slD u32V p0.num.den), .d (slD NodeA.enc p0.kids)]]⟩]) [0] h (by simp only [go_sem, reduceEqDiff, reduceAdd, reduceSub, reduceMul, reduceLeDiff, reduceLT, Nat.reduceBEq, reduceIte]) ?_
    rintro again ⟨i7_0, i7_1⟩ h
    try dsimp only at h
    refine AW.one ?_
    refine AW.block ?_
    refine AW.one ?_
    refine AW.op mixed ?_
    refine AW.kp [0] [1, 2, 7, 8, 22] ?_
    refine AW.ts (decide ((12 : Int) < (i7_0.size : Int))) (fun hb11 => ?_) (fun hb11 => ?_)
    · have h := ifT hb11 h
      refine AW.op mixed ?_
      refine AW.ret ?_
      obtain ⟨_, h, ho⟩ := outM_some h
      rw [ho, Out.fin_out] at hJ10
      have h := h.trans hJ10
      obtain rfl := Option.some.inj h
      refine nz ?_
      exact .same _
    have h := ifF hb11 h
    refine AW.sk ?_
    refine AW.kp [0] [1, 2, 7, 8] ?_
    refine AW.one ?_
    refine AW.op mixed ?_
    apply obindE h; intro r12 hx13 h
    have hc := nx (rename_occurs_ok (h := hx13))
    refine callP hc ?_
    refine AW.kp [0] [1, 2, 7, 8, 26] ?_
    refine AW.ts (!r12) (fun hb14 => ?_) (fun hb14 => ?_)
    · have h := ifT hb14 h
      refine AW.op mixed ?_
      refine AW.ret ?_
      obtain ⟨_, h, ho⟩ := outM_some h
      rw [ho, Out.fin_out] at hJ10
      have h := h.trans hJ10
      obtain rfl := Option.some.inj h
      refine nz ?_
      exact .same _
    have h := ifF hb14 h
    refine AW.sk ?_
    refine AW.kp [0] [1, 2, 8] ?_
    refine AW.rg mixed ?_
    apply obindE h; intro r15 hx16 h
    have hc := nx (strconv_Itoa_ok (h := hx16))
    refine callP hc ?_
    apply obindE h; intro s17 hx18 h
    try simp only [go_sem, reduceEqDiff, reduceAdd, reduceSub, reduceMul, reduceLeDiff, reduceLT, Nat.reduceBEq, reduceIte, bop_cat (P := Tryz.prog) hx18]
    refine AW.cut [0] [(1, .d (.val (.string p1))), (2, .ptr 0 6 0 0), (7, .d (.val (.string s17))), (8, .d (.val (.int .i64 i7_1)))] [some ⟨6, [[.d (.val (.int .i64 p0.op)), .d (.val (.string p0.name)), .d (.val (.bool p0.num.neg)), .d (slD u32V p0.num.num), .d (slD u32V p0.num.den), .d (slD NodeA.enc p0.kids)]]⟩] (by simp only [go_sem, reduceEqDiff, reduceAdd, reduceSub, reduceMul, reduceLeDiff, reduceLT, Nat.reduceBEq, reduceIte, bop_cat (P := Tryz.prog) hx18]) ?_
    refine AW.rg mixed ?_
    exact NextQ.ar (s17, IntKind.wrap .i64 (i7_1 + (1 : Int))) [0] h
  rintro ⟨⟩ rfl
  have h := hJ10
  try dsimp only [Out.fin] at h
  refine nz ?_
  cases h
/-! ### isochrone/isochronelaw18.RenameFresh -/
def law18_RenameFresh (K : Nat) (p0 : NodeA) (p1 : ByteArray) : Option Bool := (law18_awake K ).bind fun r1 => 
  if (!r1) then
    some false
  else
    (r08_Size K p0).bind fun r4 => 
    if (decide ((1000 : Int) < r4)) then
      some true
    else
      (rename_Fresh K p0 p1).bind fun r7 => 
      (r18_Fresh K p0 p1).bind fun r9 => 
      if (r7.2 == r9.2) then
        some (r7.1.toList == r9.1.toList)
      else
        some false
set_option maxHeartbeats 4000000 in
theorem law18_RenameFresh_ok {K : Nat} {p0 : NodeA} {p1 : ByteArray} {r : Bool} (h : law18_RenameFresh K p0 p1 = some r) : Cn Tryz.prog 6 [aggV p0.enc, .d (.val (.string p1))] (.d (.val (.bool r))) := by
  refine Cn.ofA mixed Tryz.func6 rfl Tryz.call6 Tryz.ntmps6 Tryz.results6 (by simp) (by simp only [go_sem, reduceEqDiff, reduceAdd, reduceSub, reduceMul, reduceLeDiff, reduceLT, Nat.reduceBEq, reduceIte]) fun hfit => ?_
  unfold law18_RenameFresh at h
  refine AW.kp [] [0, 1] ?_
  refine AW.op mixed ?_
  refine AW.kp [0] [1, 2] ?_
  refine AW.one ?_
  refine AW.op mixed ?_
  apply obindE h; intro r1 hx2 h
  have hc := nx (law18_awake_ok (h := hx2))
  refine callP hc ?_
  refine AW.kp [0] [1, 2, 10] ?_
  refine AW.ts (!r1) (fun hb3 => ?_) (fun hb3 => ?_)
  · have h := ifT hb3 h
    refine AW.op mixed ?_
    refine AW.ret ?_
    obtain rfl := Option.some.inj h
    refine nz ?_
    exact .same _
  have h := ifF hb3 h
  refine AW.sk ?_
  refine AW.kp [0] [1, 2] ?_
  refine AW.one ?_
  refine AW.op mixed ?_
  apply obindE h; intro r4 hx5 h
  have hc := nx (r08_Size_ok (h := hx5))
  refine callP hc ?_
  refine AW.kp [0] [1, 2, 13] ?_
  refine AW.ts (decide ((1000 : Int) < r4)) (fun hb6 => ?_) (fun hb6 => ?_)
  · have h := ifT hb6 h
    refine AW.op mixed ?_
    refine AW.ret ?_
    obtain rfl := Option.some.inj h
    refine nz ?_
    exact .same _
  have h := ifF hb6 h
  refine AW.sk ?_
  refine AW.kp [0] [1, 2] ?_
  refine AW.op mixed ?_
  apply obindE h; intro r7 hx8 h
  have hc := nx (rename_Fresh_ok (h := hx8))
  refine callP hc ?_
  refine AW.kp [0] [1, 2, 5, 6] ?_
  refine AW.op mixed ?_
  apply obindE h; intro r9 hx10 h
  have hc := nx (r18_Fresh_ok (h := hx10))
  refine callP hc ?_
  refine AW.kp [] [5, 6, 7, 8] ?_
  refine AW.op mixed ?_
  refine splitK_intro (fun hb11 => ?_) (fun hb11 => ?_)
  · have h := ifT hb11 h
    try simp only [go_sem, reduceEqDiff, reduceAdd, reduceSub, reduceMul, reduceLeDiff, reduceLT, Nat.reduceBEq, reduceIte, hb11]
    refine AW.ret ?_
    obtain rfl := Option.some.inj h
    refine nz ?_
    exact .same _
  have h := ifF hb11 h
  try simp only [go_sem, reduceEqDiff, reduceAdd, reduceSub, reduceMul, reduceLeDiff, reduceLT, Nat.reduceBEq, reduceIte, hb11]
  refine AW.ret ?_
  obtain rfl := Option.some.inj h
  refine nz ?_
  exact .same _
/-! ### isochrone/isochroneref18.variable -/
/-! ### isochrone/isochroneref18.Exchange -/
/-! ### isochrone/isochroneref10.Occurs -/
/-! ### isochrone/isochroneref18.renamable -/
/-! ### isochrone/isochroneref18.Uniform -/
/-! ### isochrone/rename.Uniform -/
/-! ### isochrone/isochronelaw18.RenameUniform -/
end Go.Proofs.YtngmfimpaembnaaGreatDoor
